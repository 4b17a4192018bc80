import Derived.Test.YtkcmehijmgjgfaaMIntrinsicCutsx6
namespace Go.Proofs.Ytkcmehijmgjgfaa.MIntrinsicCuts
open Go.RowKit Go.Proofs.YtkcmehijmgjgfaaW.PrintWords Go.Proofs.YtkcmehijmgjgfaaW.PrintLast Go.Proofs.YtkcmehijmgjgfaaW.PrintMore
set_option linter.unusedVariables false
set_option linter.unusedSimpArgs false
theorem rd43 (p : List (Nat × Nat)) (i : Nat) (h : i < p.length) : rd_T43 (p.map toS43) (i : Int) = toS43 p[i] := by
  unfold rd_T43
  rw [Int.toNat_natCast, List.getD_eq_getElem?_getD, List.getElem?_map, List.getElem?_eq_getElem h]; rfl
theorem rd25 (l : List S25) (i : Nat) : rd_T25 l (i : Int) = l.getD i z25 := by unfold rd_T25; rw [Int.toNat_natCast]
theorem partsL_P (cut : S25 → Bool) (l : List S25) : Parts cut l 0 (partsL cut l) := by
  by_cases h0 : 0 < l.length
  · exact parts_go cut l l.length 0 0 (by omega) (by omega) h0 (fun j h1 h2 => by omega)
  · obtain rfl : l = [] := List.eq_nil_of_length_eq_zero (by omega)
    exact .nil
theorem wr1 (i : Nat) (h : i < 4611686018427387904) : wrap64 ((i : Int) + 1) = ((i + 1 : Nat) : Int) := by unfold wrap64; omega
theorem wr2 (i : Nat) (h : i < 4611686018427387904) (h0 : 0 < i) : wrap64 ((i : Int) - 1) = ((i - 1 : Nat) : Int) := by unfold wrap64; omega

theorem parts_lt {cut : S25 → Bool} {l : List S25} {s : Nat} {ps : List (Nat × Nat)} (h : Parts cut l s ps) : ∀ t E ns, ps = (t, E) :: ns → s < E := by
  cases h with
  | nil => intro _ _ _ hh; cases hh
  | cons s e ps h1 h2 h3 h4 h5 => intro t E ns hh; cases hh; exact h1
theorem parts_nil {cut : S25 → Bool} {l : List S25} {s : Nat} {ps : List (Nat × Nat)} (h : Parts cut l s ps) : ps = [] → s = l.length := by
  cases h with
  | nil => intro _; rfl
  | cons s e ps h1 h2 h3 h4 h5 => intro hh; cases hh
abbrev nv : S25 → Bool := fun _ => false
theorem l1_true (l : List S25) (n : List (Nat × Nat)) (hn : ∀ p ∈ n, 1 ≤ p.2 ∧ p.2 ≤ l.length ∧ ((l.getD (p.2 - 1) z25).f0 = 5 ∨ p.2 = l.length)) (hl : l.length ≤ 120) (hnl : n.length ≤ 120) :
    ∀ (d k i : Nat), i ≤ n.length → n.length - i = d → d < k → stickfullaw21_IntrinsicCuts.l1 k l (n.map toS43) (l.length : Int) (n.length : Int) (i : Int) = some true
  | 0, k, i, hi, hd, hk => by
    obtain ⟨k, rfl⟩ : ∃ m, k = m + 1 := ⟨k - 1, by omega⟩
    rw [stickfullaw21_IntrinsicCuts.l1, List.length_map, if_neg (by omega), if_pos rfl, if_pos rfl]
    rfl
  | d + 1, k, i, hi, hd, hk => by
    obtain ⟨k, rfl⟩ : ∃ m, k = m + 1 := ⟨k - 1, by omega⟩
    have hin : i < n.length := by omega
    obtain ⟨h1, h2, h3⟩ := hn n[i] (List.getElem_mem hin)
    have e : (toS43 n[i]).f1 = ((n[i].2 : Nat) : Int) := rfl
    rw [stickfullaw21_IntrinsicCuts.l1, List.length_map, if_pos (by omega), if_pos (by omega), rd43 n i hin, e, if_neg (by omega), if_neg (by omega), wr2 _ (by omega) (by omega), if_pos (by omega), if_pos (by omega), rd25, wr1 i (by omega)]
    have ih := l1_true l n hn hl hnl d k (i + 1) (by omega) (by omega) (by omega)
    rcases h3 with h3 | h3
    · rw [if_pos h3, ih]
    · by_cases h5 : (l.getD (n[i].2 - 1) z25).f0 = 5
      · rw [if_pos h5, ih]
      · rw [if_neg h5, if_pos (by omega), ih]

structure Inv (l : List S25) (p n : List (Nat × Nat)) (at' k i s : Nat) : Prop where
  pp : Parts softB l at' (p.drop i)
  nn : Parts nv l s (n.drop k)
  le : s ≤ at'
  lt : ∀ E ns, n.drop k = (s, E) :: ns → at' < E
  nil : n.drop k = [] → at' = l.length
  ok : at' = 0 ∨ at' = l.length ∨ (l.getD (at' - 1) z25).f0 = 5 ∨ softB (l.getD at' z25) = true
  prev : ∀ (h : 0 < k) (h2 : k - 1 < n.length), (n[k - 1]'h2).2 = s
  ki : k ≤ n.length
  ii : i ≤ p.length
theorem Inv.step {l : List S25} {p n : List (Nat × Nat)} {a k i s : Nat} (h : Inv l p n a k i s) (hi : i < p.length) :
    (p[i]'hi).1 = a ∧ a < (p[i]'hi).2 ∧ (p[i]'hi).2 ≤ l.length ∧ ∃ hk : k < n.length, (n[k]'hk).1 = s ∧ (p[i]'hi).2 ≤ (n[k]'hk).2 ∧
      (((p[i]'hi).2 = (n[k]'hk).2 ∧ Inv l p n (p[i]'hi).2 (k + 1) (i + 1) (p[i]'hi).2) ∨ ((p[i]'hi).2 ≠ (n[k]'hk).2 ∧ Inv l p n (p[i]'hi).2 k (i + 1) s)) := by
  have hd := List.drop_eq_getElem_cons hi
  have hpp := h.pp
  rw [hd] at hpp
  obtain ⟨q, hq⟩ : ∃ q, q = p[i]'hi := ⟨_, rfl⟩
  rw [← hq] at hpp ⊢
  obtain ⟨q1, e⟩ := q
  cases hpp with
  | cons _ _ _ h1 h2 h3 h4 h5 =>
    have hkn : k < n.length := by
      apply Classical.byContradiction
      intro hc
      have := h.nil (List.drop_eq_nil_of_le (by omega))
      omega
    have hdn := List.drop_eq_getElem_cons hkn
    have hnn := h.nn
    rw [hdn] at hnn
    obtain ⟨t, ht⟩ : ∃ t, t = n[k]'hkn := ⟨_, rfl⟩
    rw [← ht] at hnn hdn
    obtain ⟨t1, E⟩ := t
    cases hnn with
    | cons _ _ _ g1 g2 g3 g4 g5 =>
      have hltE := h.lt E _ hdn
      have heE : e ≤ E := by
        apply Classical.byContradiction
        intro hc
        have a1 := h3 (E - 1) (by omega) (by omega)
        rcases g4 (E - 1) (by omega) with b | b | b
        · omega
        · exact a1.1 b
        · simp at b
      refine ⟨rfl, h1, h2, hkn, by rw [← ht], by rw [← ht]; exact heE, ?_⟩
      rw [← ht]
      have hok : e = 0 ∨ e = l.length ∨ (l.getD (e - 1) z25).f0 = 5 ∨ softB (l.getD e z25) = true := by
        rcases h4 (e - 1) (by omega) with b | b | b
        · exact .inr (.inl (by omega))
        · exact .inr (.inr (.inl b))
        · exact .inr (.inr (.inr (by rwa [show e - 1 + 1 = e by omega] at b)))
      by_cases hE : e = E
      · subst hE
        refine .inl ⟨rfl, h5, g5, Nat.le_refl _, fun E' ns hh => ?_, fun hh => ?_, hok, fun _ h2' => ?_, by omega, by omega⟩
        · rw [hh] at g5
          cases g5 with
          | cons _ _ _ c1 _ _ _ _ => exact c1
        · rw [hh] at g5
          cases g5
          rfl
        · have : k + 1 - 1 = k := by omega
          simp only [this]
          rw [← ht]
      · refine .inr ⟨hE, h5, ?_, by have := h.le; omega, fun E' ns hh => ?_, fun hh => ?_, hok, h.prev, h.ki, by omega⟩
        · exact h.nn
        · rw [hdn] at hh
          cases hh
          omega
        · rw [hdn] at hh; cases hh
theorem l0_true (l : List S25) (p n : List (Nat × Nat)) (hl : l.length ≤ 120) (hpl : p.length ≤ 120) (hnl : n.length ≤ 120) (hn : ∀ p ∈ n, 1 ≤ p.2 ∧ p.2 ≤ l.length ∧ ((l.getD (p.2 - 1) z25).f0 = 5 ∨ p.2 = l.length)) :
    ∀ (d f a k i s : Nat), p.length - i = d → 3 * d + 200 < f → Inv l p n a k i s → stickfullaw21_IntrinsicCuts.l0 f l (p.map toS43) (n.map toS43) (a : Int) (k : Int) (i : Int) = some true
  | 0, f, a, k, i, s, hd, hf, h => by
    obtain ⟨f, rfl⟩ : ∃ m, f = m + 1 := ⟨f - 1, by omega⟩
    have hi := h.ii
    rw [stickfullaw21_IntrinsicCuts.l0, List.length_map, if_neg (by omega)]
    have hpp := h.pp
    rw [List.drop_eq_nil_of_le (by omega)] at hpp
    have ha : a = l.length := by cases hpp; rfl
    have hk : k = n.length := by
      apply Classical.byContradiction
      intro hc
      have hki := h.ki
      have hkn : k < n.length := by omega
      have hdn := List.drop_eq_getElem_cons hkn
      have hnn := h.nn
      rw [hdn] at hnn
      obtain ⟨t, ht⟩ : ∃ t, t = n[k]'hkn := ⟨_, rfl⟩
      rw [← ht] at hnn hdn
      obtain ⟨t1, E⟩ := t
      cases hnn with
      | cons _ _ _ g1 g2 g3 g4 g5 =>
        have := h.lt E _ hdn
        omega
    rw [ha, hk]
    exact l1_true l n hn hl hnl n.length f 0 (by omega) (by omega) (by omega)
  | d + 1, f, a, k, i, s, hd, hf, h => by
    obtain ⟨f, rfl⟩ : ∃ m, f = m + 1 + 1 + 1 := ⟨f - 3, by omega⟩
    have hi : i < p.length := by omega
    obtain ⟨h1, h2, h3, hk, h4, h5, h6⟩ := h.step hi
    have e0 : (toS43 p[i]).f0 = ((p[i].1 : Nat) : Int) := rfl
    have e1 : (toS43 p[i]).f1 = ((p[i].2 : Nat) : Int) := rfl
    have d0 : (toS43 n[k]).f0 = ((n[k].1 : Nat) : Int) := rfl
    have d1 : (toS43 n[k]).f1 = ((n[k].2 : Nat) : Int) := rfl
    have hj2 : stickfullaw21_IntrinsicCuts.j2 (f + 1) l (p.map toS43) (n.map toS43) (k : Int) (i : Int) false = some true := by
      rw [stickfullaw21_IntrinsicCuts.j2, if_neg (by simp), List.length_map, List.length_map, if_pos (by omega), if_pos (by omega), if_pos (by omega), if_pos (by omega), rd43 p i hi, rd43 n k hk, e1, d1, wr1 k (by omega), wr1 i (by omega)]
      rcases h6 with ⟨h7, h8⟩ | ⟨h7, h8⟩
      · rw [if_pos (by omega)]
        exact l0_true l p n hl hpl hnl hn d f _ _ _ _ (by omega) (by omega) h8
      · rw [if_neg (by omega)]
        exact l0_true l p n hl hpl hnl hn d f _ _ _ _ (by omega) (by omega) h8
    have hfin : (if 0 ≤ (k : Int) then (if (k : Int) < ((n.map toS43).length : Int) then (if 0 ≤ (i : Int) then (if (i : Int) < ((p.map toS43).length : Int) then (if ((rd_T43 (n.map toS43) (k : Int)).f1) < ((rd_T43 (p.map toS43) (i : Int)).f1) then (stickfullaw21_IntrinsicCuts.j2 (f + 1) l (p.map toS43) (n.map toS43) (k : Int) (i : Int) true) else (if ((rd_T43 (p.map toS43) (i : Int)).f0) = ((rd_T43 (n.map toS43) (k : Int)).f0) then (if (k : Int) > 0 then (if 0 ≤ (wrap64 ((k : Int) - 1)) then (if (wrap64 ((k : Int) - 1)) < ((n.map toS43).length : Int) then (stickfullaw21_IntrinsicCuts.j2 (f + 1) l (p.map toS43) (n.map toS43) (k : Int) (i : Int) (((rd_T43 (n.map toS43) (k : Int)).f0) != ((rd_T43 (n.map toS43) (wrap64 ((k : Int) - 1))).f1))) else (none)) else (none)) else (stickfullaw21_IntrinsicCuts.j2 (f + 1) l (p.map toS43) (n.map toS43) (k : Int) (i : Int) false)) else (stickfullaw21_IntrinsicCuts.j2 (f + 1) l (p.map toS43) (n.map toS43) (k : Int) (i : Int) false))) else (none)) else (none)) else (none)) else (none)) = some true := by
      rw [List.length_map, List.length_map, if_pos (by omega), if_pos (by omega), if_pos (by omega), if_pos (by omega), rd43 p i hi, rd43 n k hk, e0, e1, d0, d1, if_neg (by omega)]
      by_cases c1 : ((p[i].1 : Nat) : Int) = ((n[k].1 : Nat) : Int)
      · rw [if_pos c1]
        by_cases c2 : (k : Int) > 0
        · have hk1 : k - 1 < n.length := by omega
          have hpv := h.prev (by omega) hk1
          have d2 : (toS43 n[k - 1]).f1 = ((n[k - 1].2 : Nat) : Int) := rfl
          rw [if_pos c2, wr2 k (by omega) (by omega), if_pos (by omega), if_pos (by omega), rd43 n (k - 1) hk1, d2]
          have : (((n[k].1 : Nat) : Int) != ((n[k - 1].2 : Nat) : Int)) = false := by rw [bne_eq_false_iff_eq]; omega
          rw [this]
          exact hj2
        · rw [if_neg c2]; exact hj2
      · rw [if_neg c1]; exact hj2
    rw [stickfullaw21_IntrinsicCuts.l0, if_pos (by rw [List.length_map]; omega), if_pos (by omega), rd43 p i hi, e0, e1, if_pos (by omega), if_neg (by omega), if_neg (by omega), List.length_map]
    rw [show decide ((k : Int) ≥ (n.length : Int)) = false by simp; omega]
    rw [stickfullaw21_IntrinsicCuts.j1, if_neg (by simp)]
    by_cases c0 : (a : Int) > 0
    · rw [if_pos c0, if_pos (by omega), if_pos (by omega), rd25]
      by_cases c1 : (l.getD a z25).f4 = true
      · rw [if_pos c1]; exact hfin
      · rw [if_neg c1]
        by_cases c2 : (l.getD a z25).f5 = true
        · rw [if_pos c2]; exact hfin
        · rw [if_neg c2, wr2 a (by omega) (by omega), if_pos (by omega), if_pos (by omega), rd25]
          have : (l.getD (a - 1) z25).f0 = 5 := by
            rcases h.ok with b | b | b | b
            · omega
            · omega
            · exact b
            · unfold softB at b
              rw [Bool.or_eq_true] at b
              exact (b.elim c1 c2).elim
          rw [if_pos this]; exact hfin
    · rw [if_neg c0]; exact hfin
/-- The plain law. -/
theorem pure (l : List S25) : stickfullaw21_IntrinsicCuts.f 1000 l = some true := by
  unfold stickfullaw21_IntrinsicCuts.f stickfullaw21_great.f
  rw [Option.bind_some]
  by_cases h : (l.length : Int) > 120
  · rw [if_pos (by simpa using h)]; rfl
  · rw [if_neg (by simpa using h)]
    have hl : l.length ≤ 120 := by omega
    have hn := parts_all (partsL_P nv l)
    rw [show intrinsic_Pieces.f l = some ((partsL softB l).map toS43) by unfold intrinsic_Pieces.f; rw [if_pos (by omega)], show intrinsic_Lines.f l = some ((partsL nv l).map toS43) by unfold intrinsic_Lines.f; rw [if_pos (by omega)], Option.bind_some, Option.bind_some]
    have hpl := partsL_length softB l
    have hnl := partsL_length nv l
    refine l0_true l (partsL softB l) (partsL nv l) hl (by omega) (by omega) (fun p hp => ?_) (partsL softB l).length 1000 0 0 0 0 (by omega) (by omega) ⟨partsL_P _ _, partsL_P _ _, Nat.le_refl _, fun E ns hh => ?_, fun hh => ?_, .inl rfl, fun h0 => by omega, by omega, by omega⟩
    · obtain ⟨a1, a2, a3, a4⟩ := hn p hp
      refine ⟨by omega, a2, ?_⟩
      rcases a4 (p.2 - 1) (by omega) with b | b | b
      · exact .inr (by omega)
      · exact .inl b
      · simp at b
    · rw [List.drop_zero] at hh
      exact parts_lt (partsL_P nv l) _ _ _ hh
    · rw [List.drop_zero] at hh
      exact parts_nil (partsL_P nv l) hh
end Go.Proofs.Ytkcmehijmgjgfaa.MIntrinsicCuts
