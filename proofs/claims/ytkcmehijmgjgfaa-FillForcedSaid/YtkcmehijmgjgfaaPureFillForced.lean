/-
  The plain law of FillForced: lists and numbers alone: where no cell is Soft or Emerg, there is one line more than forced breaks; with a wider room the first line is not shorter. Conditions: the cells' advances and the rooms' starts are in int64's range.
-/
import Derived.Test.YtkcmehijmgjgfaaMFillForcedx9
namespace Go.Proofs.Ytkcmehijmgjgfaa.MFillForced
open Go.RowKit Go.Proofs.YtkcmehijmgjgfaaW.PrintWords Go.Proofs.YtkcmehijmgjgfaaW.PrintLast Go.Proofs.YtkcmehijmgjgfaaW.PrintMore
set_option linter.unusedVariables false
set_option linter.unusedSimpArgs false
theorem rd25 (l : List S25) (i : Nat) : rd_T25 l (i : Int) = l.getD i z25 := by unfold rd_T25; rw [Int.toNat_natCast]
theorem wr1 (i : Nat) (h : i < 4611686018427387904) : wrap64 ((i : Int) + 1) = ((i + 1 : Nat) : Int) := by unfold wrap64; omega
def I64 (x : Int) : Prop := -9223372036854775808 ≤ x ∧ x ≤ 9223372036854775807
theorem sum_some (l : List Int) (hl : l.length < 100) (hm : ∀ x ∈ l, I64 x) : ∃ r : Int × Int, unit_Sum.f l = some r ∧ I64 r.1 := by
  unfold unit_Sum.f
  rw [if_pos ⟨by omega, hm⟩]
  refine ⟨_, rfl, ?_⟩
  unfold fitS I64
  split <;> (try simp only []) <;> omega
theorem wrap_I (x : Int) : I64 (wrap64 x) := by unfold wrap64 I64; omega
theorem stop_some (y s : Int) (hy : I64 y) (hs : I64 s) : ∃ r : Int × Int, unit_Stop.f y s = some r ∧ I64 r.1 := by
  unfold unit_Stop.f
  by_cases h1 : s < 1
  · rw [if_pos h1]; exact ⟨_, rfl, by unfold I64; simp⟩
  · rw [if_neg h1, if_neg (by omega)]
    split
    · obtain ⟨r, h, hr⟩ := sum_some [y, wrap64 (-(wrap64 (Int.tmod y s + s))), s] (by simp) (by intro x hx; simp at hx; rcases hx with rfl | rfl | rfl <;> first | assumption | exact wrap_I _)
      rw [h]; exact ⟨_, rfl, hr⟩
    · obtain ⟨r, h, hr⟩ := sum_some [y, wrap64 (-(Int.tmod y s)), s] (by simp) (by intro x hx; simp at hx; rcases hx with rfl | rfl | rfl <;> first | assumption | exact wrap_I _)
      rw [h]; exact ⟨_, rfl, hr⟩
theorem step_some (c : S25) (y : Int) (hc : I64 c.f3) (hy : I64 y) : ∃ r : Int × Int, tabs_Step.f 1 c.f0 c.f1 c.f2 c.f3 c.f4 c.f5 y = some r ∧ I64 r.1 := by
  have z0 : I64 0 := by unfold I64; omega
  obtain ⟨r1, h1, hr1⟩ := sum_some [y] (by simp) (by intro x hx; simp at hx; subst hx; exact hy)
  have hj : ∀ b, ∃ r : Int × Int, tabs_Step.j0 1 y r1.2 b c.f0 c.f1 c.f2 c.f3 c.f4 c.f5 = some r ∧ I64 r.1 := by
    intro b
    rw [tabs_Step.j0]
    split
    · exact ⟨_, rfl, z0⟩
    · split
      · split
        · split
          · exact ⟨_, rfl, hy⟩
          · obtain ⟨r, h, hr⟩ := stop_some y c.f3 hy hc
            rw [h]; exact ⟨_, rfl, hr⟩
        · exact ⟨_, rfl, z0⟩
      · obtain ⟨r, h, hr⟩ := sum_some [y, c.f3] (by simp) (by intro x hx; simp at hx; rcases hx with rfl | rfl <;> assumption)
        rw [h]; exact ⟨_, rfl, hr⟩
  unfold tabs_Step.f
  rw [h1, Option.bind_some]
  split
  · exact hj _
  · exact hj _
theorem role_some (roles : List Int) (i : Nat) : ∃ r, tabs_role.f roles i = some r := by
  unfold tabs_role.f
  split
  · rw [if_pos (by omega)]; exact ⟨_, rfl⟩
  · exact ⟨_, rfl⟩
theorem penStep_some (roles : List Int) (i : Nat) (c : S25) (y : Int) (hc : I64 c.f3) (hy : I64 y) : ∃ r : Int × Int, penStep roles i c y = some r ∧ I64 r.1 := by
  unfold penStep
  obtain ⟨r, h⟩ := role_some roles i
  rw [h, Option.bind_some]
  split
  · exact ⟨_, rfl, hy⟩
  · exact step_some c y hc hy
theorem pensO_some (roles : List Int) : ∀ (l : List S25) (i : Nat) (y : Int), (∀ c ∈ l, I64 c.f3) → I64 y → ∃ ps, pensO roles i y l = some ps
  | [], _, _, _, _ => ⟨[], rfl⟩
  | c :: l, i, y, h, hy => by
    obtain ⟨r, h1, hr⟩ := penStep_some roles i c y (h c List.mem_cons_self) hy
    rw [pensO, h1, Option.bind_some]
    split
    · obtain ⟨ps, h2⟩ := pensO_some roles l (i + 1) r.1 (fun d hd => h d (List.mem_cons_of_mem _ hd)) hr
      rw [h2]; exact ⟨_, rfl⟩
    · exact ⟨_, rfl⟩
theorem pensO_len (roles : List Int) : ∀ (l : List S25) (i : Nat) (y : Int) (ps : List (Int × Int)), pensO roles i y l = some ps → ps.length ≤ l.length := fun l i y ps h => pensO_length h
theorem end_some (l : List S25) (roles : List Int) (x : Int) (h : ∀ c ∈ l, I64 c.f3) (hx : I64 x) (hl : l.length < 4398046511104) : ∃ r, tabs_End.f l roles x = some r := by
  have hp : ∃ r : List Int × Int, tabs_Pens.f l roles x = some r ∧ (r.2 = 0 → 1 ≤ r.1.length ∧ r.1.length < 4398046511106) := by
    unfold tabs_Pens.f
    rw [if_pos hl]
    split
    · exact ⟨_, rfl, fun h => by simp at h⟩
    · obtain ⟨s, hs, hs2⟩ := sum_some [x] (by simp) (by intro y hy; simp at hy; subst hy; exact hx)
      rw [hs, Option.bind_some]
      split
      · rename_i h0
        exact ⟨_, rfl, fun h => absurd h h0⟩
      · obtain ⟨ps, hps⟩ := pensO_some roles l 0 x h hx
        have hlen := pensO_length hps
        rw [hps]
        simp only [Option.map_some]
        split
        · rename_i hany
          refine ⟨_, rfl, fun h0 => ?_⟩
          exfalso
          obtain ⟨p, hp, hp2⟩ := List.any_eq_true.1 hany
          obtain ⟨j, hj⟩ := List.getElem?_of_mem hp
          have := pensO_last hps hj (by simpa using hp2)
          rw [this] at h0
          simp at hp2
          exact hp2 h0
        · exact ⟨_, rfl, fun _ => by simp; omega⟩
  obtain ⟨r, h1, h2⟩ := hp
  unfold tabs_End.f
  rw [h1, Option.bind_some]
  split
  · rename_i h0
    have := h2 h0
    have hw : wrap64 ((r.1.length : Int) - 1) = (r.1.length : Int) - 1 := by unfold wrap64; omega
    rw [hw, if_pos (by omega), if_pos (by omega)]
    exact ⟨_, rfl⟩
  · exact ⟨_, rfl⟩
theorem fits_someX (l : List S25) (x : Int) (h : ∀ c ∈ l, I64 c.f3) (hx : I64 x) (hl : l.length < 4398046511104) : ∃ r, trim_Fits.f l x = some r := by
  unfold trim_Fits.f trim_Roles.f
  rw [if_pos hl, Option.bind_some]
  exact end_some l _ x h hx hl
/-- Rows of ends that ascend. -/
theorem endsFrom_sorted (is : S25 → Bool) (l : List S25) (fr u p : Nat) : (endsFrom is l fr u p).Pairwise (· < ·) := by
  unfold endsFrom
  exact List.Pairwise.filter _ (List.pairwise_lt_range' (s := p) (n := u - p))
theorem cast_sorted (l : List Nat) (h : l.Pairwise (· < ·)) : (l.map fun p : Nat => (p : Int)).Pairwise (· < ·) := by
  rw [List.pairwise_map]
  exact h.imp fun h => by omega
theorem someS_sorted (l : List S25) (n : Nat) : (someS l n).Pairwise (· < ·) := by
  unfold someS
  rw [List.pairwise_append]
  refine ⟨cast_sorted _ (endsFrom_sorted _ _ _ _ _), List.pairwise_singleton _ _, fun a ha b hb => ?_⟩
  obtain ⟨p, hp, rfl⟩ := List.mem_map.1 ha
  have := endsFrom_mem _ _ _ _ _ _ hp
  rw [List.mem_singleton.1 hb]
  omega
theorem otherS_sorted (l : List S25) (n : Nat) : (otherS l n).Pairwise (· < ·) := cast_sorted _ (endsFrom_sorted _ _ _ _ _)
/-- reach over a row that ascends answers one of the row, or what it began with. -/
theorem reach_mem (fit : Int → Option (Bool × Int)) : ∀ (l : List Int) (i : Nat) (p t : Int) (b : Bool), reachO fit i p l = some (t, b, 0) → t ∈ l ∨ t = p
  | [], i, p, t, b, h => by rw [reachO] at h; cases h; exact .inr rfl
  | q :: l, i, p, t, b, h => by
    rw [reachO] at h
    obtain ⟨x, h1, h2⟩ := Option.bind_eq_some_iff.1 h
    split at h2
    · split at h2
      · rcases reach_mem fit l (i + 1) q t b h2 with h | h
        · exact .inl (List.mem_cons_of_mem _ h)
        · exact .inl (h ▸ List.mem_cons_self)
      · split at h2
        · cases h2; exact .inl List.mem_cons_self
        · cases h2; exact .inr rfl
    · rename_i hx
      have := Option.some.inj h2
      simp at this
      exact absurd this.2.2 hx
/-- One fit that is told: it holds as well where there is more room. -/
def FitLe (f g : Int → Option (Bool × Int)) : Prop := ∀ q x, f q = some x → ∃ b, g q = some (b, x.2) ∧ (x.1 = true → b = true)
theorem reach_le (f g : Int → Option (Bool × Int)) (hfg : FitLe f g) : ∀ (l : List Int) (i : Nat) (p t t' : Int) (b b' : Bool), (p :: l).Pairwise (· < ·) ∨ (i = 0 ∧ l.Pairwise (· < ·)) → reachO f i p l = some (t, b, 0) → reachO g i p l = some (t', b', 0) →
    (i = 0 → l ≠ []) → t ≤ t' ∧ (b = true → b' = true)
  | [], i, p, t, t', b, b', _, h1, h2, _ => by rw [reachO] at h1 h2; cases h1; cases h2; exact ⟨Int.le_refl _, fun h => h⟩
  | q :: l, i, p, t, t', b, b', hs, h1, h2, hne => by
    rw [reachO] at h1 h2
    obtain ⟨x, hx, h1⟩ := Option.bind_eq_some_iff.1 h1
    obtain ⟨gb, hg, hgb⟩ := hfg q x hx
    rw [hg, Option.bind_some] at h2
    have hql : (q :: l).Pairwise (· < ·) := by
      rcases hs with hs | hs
      · exact (List.pairwise_cons.1 hs).2
      · exact hs.2
    by_cases h0 : x.2 = 0
    · rw [if_pos h0] at h1
      simp only [h0, if_true] at h2
      by_cases hb : x.1 = true
      · rw [if_pos hb] at h1
        rw [if_pos (hgb hb)] at h2
        exact reach_le f g hfg l (i + 1) q t t' b b' (.inl hql) h1 h2 (by omega)
      · rw [if_neg hb] at h1
        have hge : q ≤ t' ∨ (gb = false) := by
          cases gb with
          | false => exact .inr rfl
          | true =>
            left
            rw [if_pos rfl] at h2
            rcases reach_mem g l (i + 1) q t' b' h2 with h | h
            · have := (List.pairwise_cons.1 hql).1 t' h; omega
            · omega
        by_cases hi : i = 0
        · rw [if_pos hi] at h1
          cases h1
          rcases hge with hge | hge
          · exact ⟨hge, fun h => by cases h⟩
          · rw [hge, if_neg (by simp), if_pos hi] at h2
            cases h2
            exact ⟨Int.le_refl _, fun h => h⟩
        · rw [if_neg hi] at h1
          cases h1
          have hpq : p < q := by
            rcases hs with hs | hs
            · exact (List.pairwise_cons.1 hs).1 q List.mem_cons_self
            · exact absurd hs.1 hi
          rcases hge with hge | hge
          · refine ⟨by omega, fun _ => ?_⟩
            cases gb with
            | false => rw [if_neg (by simp), if_neg hi] at h2; cases h2; rfl
            | true =>
              rw [if_pos rfl] at h2
              -- behind the first one it answers true
              exact reach_true g l (i + 1) q t' b' (by omega) h2
          · rw [hge, if_neg (by simp), if_neg hi] at h2
            cases h2
            exact ⟨Int.le_refl _, fun h => h⟩
    · rw [if_neg h0] at h1
      have := Option.some.inj h1
      simp at this
      exact absurd this.2.2 h0
where
  reach_true (g : Int → Option (Bool × Int)) : ∀ (l : List Int) (i : Nat) (p t : Int) (b : Bool), 0 < i → reachO g i p l = some (t, b, 0) → b = true
  | [], i, p, t, b, _, h => by rw [reachO] at h; cases h; rfl
  | q :: l, i, p, t, b, hi, h => by
    rw [reachO] at h
    obtain ⟨x, h1, h2⟩ := Option.bind_eq_some_iff.1 h
    split at h2
    · split at h2
      · exact reach_true g l (i + 1) q t b (by omega) h2
      · rw [if_neg (by omega)] at h2; cases h2; rfl
    · rename_i hx
      have := Option.some.inj h2
      simp at this
      exact absurd this.2.2 hx
theorem fitLe_wide (l : List S25) (fr w w' st : Int) (h : w ≤ w') : FitLe (fitO l fr w st) (fitO l fr w' st) := by
  intro q x hx
  unfold fitO at hx ⊢
  obtain ⟨r, h1, h2⟩ := Option.bind_eq_some_iff.1 hx
  rw [h1, Option.bind_some]
  cases h2
  exact ⟨_, rfl, fun h => by simp at h ⊢; omega⟩
theorem someS_ne (l : List S25) (n : Nat) : someS l n ≠ [] := by unfold someS; simp
/-- What a line's walk does, laid open. -/
theorem one_open {l : List S25} {a wid st r1 r2 : Int} {r3 : Bool} (h : fill_One.f l a wid st = some (r1, r2, r3, 0)) :
    mayS l a = true ∧ 0 ≤ wid ∧ ∃ t b, reachO (fitO l a wid st) 0 0 (someS l a.toNat) = some (t, b, 0) ∧ r1 = a ∧ r3 = ((lastS l a.toNat).2 && decide (r2 = ((lastS l a.toNat).1 : Int))) ∧
      ((¬ (b = false ∧ 0 < ((otherS l a.toNat).filter fun p => decide (p < t)).length) ∧ r2 = t) ∨
       (b = false ∧ 0 < ((otherS l a.toNat).filter fun p => decide (p < t)).length ∧ ∃ b', reachO (fitO l a wid st) 0 0 ((otherS l a.toNat).filter fun p => decide (p < t)) = some (r2, b', 0))) := by
  unfold fill_One.f at h
  split at h
  case isFalse => cases h
  split at h
  case isFalse => simp at h
  rename_i hm
  refine ⟨hm.1, hm.2, ?_⟩
  obtain ⟨⟨t, b, e⟩, h1, h2⟩ := Option.bind_eq_some_iff.1 h
  obtain ⟨⟨z1, z2⟩, h3, h4⟩ := Option.bind_eq_some_iff.1 h2
  dsimp only at h3 h4
  have hz : z2 = 0 := by
    by_cases hz : z2 = 0
    · exact hz
    · rw [if_neg hz] at h4
      have := Option.some.inj h4
      simp at this
      exact absurd this.2.2.2 hz
  rw [if_pos hz] at h4
  simp only [Option.some.injEq, Prod.mk.injEq] at h4
  obtain ⟨h5, h6, h7, _⟩ := h4
  subst h5 h6
  by_cases hc : e = 0 ∧ b = false ∧ 0 < ((otherS l a.toNat).filter fun p => decide (p < t)).length
  · rw [if_pos hc] at h3
    obtain ⟨⟨y1, y2, y3⟩, h8, h9⟩ := Option.map_eq_some_iff.1 h3
    simp only [Prod.mk.injEq] at h9
    obtain ⟨h10, h11⟩ := h9
    subst h10 h11
    refine ⟨t, b, by rw [h1, hc.1], rfl, h7.symm, .inr ⟨hc.2.1, hc.2.2, y2, ?_⟩⟩
    rw [hz] at h8
    exact h8
  · rw [if_neg hc] at h3
    simp only [Option.some.injEq, Prod.mk.injEq] at h3
    obtain ⟨h10, h11⟩ := h3
    subst h10 h11
    refine ⟨t, b, by rw [h1, hz], rfl, h7.symm, .inl ⟨fun h => hc ⟨hz, h⟩, rfl⟩⟩
/-- A wider room: the line is not shorter. -/
theorem one_wide {l : List S25} {a w w' st r1 r2 s1 s2 : Int} {r3 s3 : Bool} (hw : w ≤ w') (h : fill_One.f l a w st = some (r1, r2, r3, 0)) (h' : fill_One.f l a w' st = some (s1, s2, s3, 0)) : r2 ≤ s2 := by
  obtain ⟨_, _, t, b, h1, _, _, h2⟩ := one_open h
  obtain ⟨_, _, t', b', h1', _, _, h2'⟩ := one_open h'
  have hle := reach_le _ _ (fitLe_wide l a w w' st hw) (someS l a.toNat) 0 0 t t' b b' (.inr ⟨rfl, someS_sorted l _⟩) h1 h1' (fun _ => someS_ne l _)
  have hnear : ∀ (t : Int) (wid r : Int) (b : Bool), 0 < ((otherS l a.toNat).filter fun p => decide (p < t)).length → reachO (fitO l a wid st) 0 0 ((otherS l a.toNat).filter fun p => decide (p < t)) = some (r, b, 0) → r < t := by
    intro t wid r b hl h
    obtain ⟨q, m, hq⟩ : ∃ q m, ((otherS l a.toNat).filter fun p => decide (p < t)) = q :: m := by
      cases hf : ((otherS l a.toNat).filter fun p => decide (p < t)) with
      | nil => rw [hf] at hl; simp at hl
      | cons q m => exact ⟨q, m, rfl⟩
    have hall : ∀ x ∈ ((otherS l a.toNat).filter fun p => decide (p < t)), x < t := fun x hx => by simpa using (List.mem_filter.1 hx).2
    rw [hq] at h hall
    rw [reachO] at h
    obtain ⟨x, h1, h2⟩ := Option.bind_eq_some_iff.1 h
    split at h2
    · split at h2
      · rcases reach_mem _ m _ q r b h2 with h | h
        · exact hall r (List.mem_cons_of_mem _ h)
        · rw [h]; exact hall q List.mem_cons_self
      · rw [if_pos rfl] at h2; cases h2; exact hall _ List.mem_cons_self
    · rename_i hx
      have := Option.some.inj h2
      simp at this
      exact absurd this.2.2 hx
  rcases h2 with ⟨hn, rfl⟩ | ⟨hb, hl, b2, hr⟩
  · rcases h2' with ⟨_, rfl⟩ | ⟨hb', hl', b2', hr'⟩
    · exact hle.1
    · -- the wider one took near ends: so did the narrower one
      exfalso
      have hbf : b = false := by
        cases b with
        | false => rfl
        | true => have := hle.2 rfl; rw [hb'] at this; cases this
      have htt : r2 = t' := by
        obtain ⟨q, m, hq⟩ := List.exists_cons_of_ne_nil (someS_ne l a.toNat)
        rw [hq, reachO] at h1 h1'
        obtain ⟨x, hx, h1⟩ := Option.bind_eq_some_iff.1 h1
        obtain ⟨x', hx', h1'⟩ := Option.bind_eq_some_iff.1 h1'
        have a1 := first_false _ m q 0 x r2 b hbf h1
        have a2 := first_false _ m q 0 x' t' b' hb' h1'
        rw [a1, a2]
      subst htt
      exact hn ⟨hbf, hl'⟩
  · have h3 := hnear t w r2 b2 hl hr
    rcases h2' with ⟨_, rfl⟩ | ⟨hb', hl', b2', hr'⟩
    · have := hle.1; omega
    · have htt : t = t' := by
        obtain ⟨q, m, hq⟩ := List.exists_cons_of_ne_nil (someS_ne l a.toNat)
        rw [hq, reachO] at h1 h1'
        obtain ⟨x, hx, h1⟩ := Option.bind_eq_some_iff.1 h1
        obtain ⟨x', hx', h1'⟩ := Option.bind_eq_some_iff.1 h1'
        rw [first_false _ m q 0 x t b hb h1, first_false _ m q 0 x' t' b' hb' h1']
      subst htt
      exact (reach_le _ _ (fitLe_wide l a w w' st hw) _ 0 0 r2 s2 b2 b2' (.inr ⟨rfl, (otherS_sorted l _).filter _⟩) hr hr' (fun _ he => by rw [he] at hl; simp at hl)).1
where
  first_false (f : Int → Option (Bool × Int)) (m : List Int) (q p : Int) (x : Bool × Int) (t : Int) (b : Bool) (hb : b = false)
      (h : (if x.2 = 0 then if x.1 = true then reachO f (0 + 1) q m else if 0 = 0 then some (q, false, 0) else some (p, true, 0) else some (0, false, x.2)) = some (t, b, 0)) : t = q := by
    split at h
    · split at h
      · have := reach_le.reach_true f m 1 q t b (by omega) h
        rw [hb] at this; cases this
      · rw [if_pos rfl] at h; cases h; rfl
    · rename_i hx
      have := Option.some.inj h
      simp at this
      exact absurd this.2.2 hx
/-- The number of forced breaks. -/
def brk (l : List S25) : Nat := l.countP fun c => c.f0 == 5
theorem brk_close (l : List S25) : brk (l.drop (closeN l)) = brk l := by
  induction l with
  | nil => rfl
  | cons c l ih =>
    unfold closeN at ih ⊢
    rw [List.takeWhile_cons]
    by_cases h : (c.f0 == 8) = true
    · rw [if_pos h]
      have h5 : (c.f0 == 5) = false := by simp at h ⊢; omega
      show brk ((c :: l).drop ((l.takeWhile _).length + 1)) = _
      rw [List.drop_succ_cons, ih]
      unfold brk
      rw [List.countP_cons_of_neg (by simpa using h5)]
    · rw [if_neg h]; rfl
theorem lastGo_brk : ∀ (l : List S25) (i : Nat), ((lastGo i l).2 = true ∧ brk l = 1 + brk (l.drop ((lastGo i l).1 - i)) ∧ i < (lastGo i l).1) ∨ ((lastGo i l).2 = false ∧ brk l = 0 ∧ (lastGo i l).1 = i + l.length)
  | [], i => .inr ⟨rfl, rfl, rfl⟩
  | c :: l, i => by
    rw [lastGo]
    by_cases h : c.f0 = 5
    · rw [if_pos h]
      left
      refine ⟨rfl, ?_, by dsimp only; omega⟩
      have e : i + 1 + closeN l - i = closeN l + 1 := by omega
      dsimp only
      rw [e, List.drop_succ_cons, brk_close]
      unfold brk
      rw [List.countP_cons_of_pos (by simpa using h)]
      omega
    · rw [if_neg h]
      have hb : brk (c :: l) = brk l := by unfold brk; rw [List.countP_cons_of_neg (by simpa using h)]
      rcases lastGo_brk l (i + 1) with ⟨h1, h2, h3⟩ | ⟨h1, h2, h3⟩
      · left
        refine ⟨h1, ?_, by omega⟩
        have e : (lastGo (i + 1) l).1 - i = ((lastGo (i + 1) l).1 - (i + 1)) + 1 := by omega
        rw [hb, h2, e, List.drop_succ_cons]
      · right
        exact ⟨h1, by rw [hb, h2], by rw [h3, List.length_cons]; omega⟩
theorem lastS_brk (l : List S25) (n : Nat) (hn : n ≤ l.length) : ((lastS l n).2 = true ∧ brk (l.drop n) = 1 + brk (l.drop (lastS l n).1) ∧ n < (lastS l n).1) ∨ ((lastS l n).2 = false ∧ brk (l.drop n) = 0 ∧ (lastS l n).1 = l.length) := by
  unfold lastS
  rcases lastGo_brk (l.drop n) n with ⟨h1, h2, h3⟩ | ⟨h1, h2, h3⟩
  · left
    refine ⟨h1, ?_, h3⟩
    rw [h2, List.drop_drop]
    congr 3
    omega
  · right
    refine ⟨h1, h2, ?_⟩
    rw [h3, List.length_drop]; omega
theorem fitO_some (l : List S25) (hl : l.length < 4398046511104) (hI : ∀ c ∈ l, I64 c.f3) (fr wid st : Int) (hs : I64 st) (q : Int) : ∃ x, fitO l fr wid st q = some x := by
  obtain ⟨r, hr⟩ := fits_someX ((l.take q.toNat).drop fr.toNat) st (fun c hc => hI c (List.mem_of_mem_take (List.mem_of_mem_drop hc))) hs (by simp only [List.length_drop, List.length_take]; omega)
  unfold fitO
  rw [hr, Option.bind_some]
  exact ⟨_, rfl⟩
theorem reach_some (fit : Int → Option (Bool × Int)) (h : ∀ q, ∃ x, fit q = some x) : ∀ (l : List Int) (i : Nat) (p : Int), ∃ r, reachO fit i p l = some r
  | [], i, p => ⟨_, by rw [reachO]⟩
  | q :: l, i, p => by
    obtain ⟨x, hx⟩ := h q
    rw [reachO, hx, Option.bind_some]
    split
    · split
      · exact reach_some fit h l (i + 1) q
      · split <;> exact ⟨_, rfl⟩
    · exact ⟨_, rfl⟩
theorem one_some (l : List S25) (hl : l.length < 1099511627776) (hI : ∀ c ∈ l, I64 c.f3) (a wid st : Int) (hs : I64 st) : ∃ r, fill_One.f l a wid st = some r := by
  have hf := fitO_some l (by omega) hI a wid st hs
  unfold fill_One.f
  rw [if_pos hl]
  split
  · obtain ⟨x, hx⟩ := reach_some _ hf (someS l a.toNat) 0 0
    rw [hx, Option.bind_some]
    have hz : ∀ z : Int × Int, ∃ r : Int × Int × Bool × Int, (if z.2 = 0 then some (a, z.1, (lastS l a.toNat).2 && decide (z.1 = ((lastS l a.toNat).1 : Int)), (0 : Int)) else some (0, 0, false, z.2)) = some r := by
      intro z; split <;> exact ⟨_, rfl⟩
    split
    · obtain ⟨y, hy⟩ := reach_some _ hf ((otherS l a.toNat).filter fun p => decide (p < x.1)) 0 0
      rw [hy, Option.map_some, Option.bind_some]
      exact hz _
    · rw [Option.bind_some]
      exact hz _
  · exact ⟨_, rfl⟩
theorem ends_none (is : S25 → Bool) (l : List S25) (hc : ∀ c ∈ l, is c = false) (hz : is z25 = false) (n u : Nat) : endsS is l n u = [] := by
  unfold endsS endsFrom
  rw [List.filter_eq_nil_iff]
  intro p _
  unfold endB
  have : is (l.getD p z25) = false := by
    rw [List.getD_eq_getElem?_getD]
    cases h : l[p]? with
    | none => exact hz
    | some c => exact hc c (List.mem_of_getElem? h)
  rw [this]; simp
/-- Where no cell is Soft or Emerg, a line ends at the last end. -/
theorem one_clear (l : List S25) (hc : ∀ c ∈ l, c.f4 = false ∧ c.f5 = false) {a wid st r1 r2 : Int} {r3 : Bool} (h : fill_One.f l a wid st = some (r1, r2, r3, 0)) :
    r2 = ((lastS l a.toNat).1 : Int) ∧ r3 = (lastS l a.toNat).2 ∧ 0 ≤ a ∧ a ≤ l.length := by
  obtain ⟨hm, hw, t, b, h1, h2, h3, h4⟩ := one_open h
  have hO : otherS l a.toNat = [] := by unfold otherS; rw [ends_none _ l (fun c hc' => (hc c hc').2) rfl]; rfl
  have hS : someS l a.toNat = [((lastS l a.toNat).1 : Int)] := by unfold someS; rw [ends_none _ l (fun c hc' => (hc c hc').1) rfl]; rfl
  rw [hO] at h4
  simp only [List.filter_nil, List.length_nil, Nat.lt_irrefl, and_false, not_false_eq_true, true_and, false_and, or_false] at h4
  subst h4
  have ht : r2 = ((lastS l a.toNat).1 : Int) := by
    rw [hS, reachO] at h1
    obtain ⟨x, _, h1⟩ := Option.bind_eq_some_iff.1 h1
    split at h1
    · split at h1
      · rw [reachO] at h1; cases h1; rfl
      · rw [if_pos rfl] at h1; cases h1; rfl
    · rename_i hx
      have := Option.some.inj h1
      simp at this
      exact absurd this.2.2 hx
  refine ⟨ht, by rw [h3, ht]; simp, ?_⟩
  unfold mayS at hm
  simp only [Bool.and_eq_true, decide_eq_true_eq] at hm
  exact hm.2
theorem lines_cnt (l : List S25) (hl : l.length < 1000) (hI : ∀ c ∈ l, I64 c.f3) (hc : ∀ c ∈ l, c.f4 = false ∧ c.f5 = false) (w2 s2 : Int) (hs2 : I64 s2) :
    ∀ (j k n : Nat) (acc : List S54) (w1 s1 : Int), I64 s1 → n ≤ l.length → j = brk (l.drop n) → acc.length + j < 100000 → ∃ r, fill_Lines.l0 (k + j + 2) l acc n true w2 s2 w1 s1 = some r ∧ (r.2 = 0 → r.1.length = acc.length + j + 1) := by
  intro j
  induction j with
  | zero =>
    intro k n acc w1 s1 hs1 hn hj ha
    rw [fill_Lines.l0, if_pos rfl]
    obtain ⟨⟨r1, r2, r3, e⟩, hr⟩ := one_some l (by omega) hI n w1 s1 hs1
    rw [hr, Option.bind_some]
    dsimp only
    by_cases he : e = 0
    · subst he
      obtain ⟨h1, h2, _, _⟩ := one_clear l hc hr
      rw [Int.toNat_natCast] at h1 h2
      rcases lastS_brk l n hn with ⟨g1, g2, g3⟩ | ⟨g1, g2, g3⟩
      · omega
      · rw [if_pos rfl, if_pos (by omega), Option.bind_some, h2, g1, if_neg (by simp), h1, g3, decide_eq_false (by omega)]
        rw [show k + 0 + 1 = k + 1 from rfl, fill_Lines.l0, if_neg (by simp)]
        exact ⟨_, rfl, fun _ => by simp⟩
    · rw [if_neg he]
      exact ⟨_, rfl, fun h => absurd h he⟩
  | succ j ih =>
    intro k n acc w1 s1 hs1 hn hj ha
    rw [show k + (j + 1) + 2 = (k + j + 2) + 1 by omega, fill_Lines.l0, if_pos rfl]
    obtain ⟨⟨r1, r2, r3, e⟩, hr⟩ := one_some l (by omega) hI n w1 s1 hs1
    rw [hr, Option.bind_some]
    dsimp only
    by_cases he : e = 0
    · subst he
      obtain ⟨h1, h2, _, _⟩ := one_clear l hc hr
      rw [Int.toNat_natCast] at h1 h2
      rcases lastS_brk l n hn with ⟨g1, g2, g3⟩ | ⟨g1, g2, g3⟩
      · rw [if_pos rfl, if_pos (by omega), Option.bind_some, h2, g1, if_pos rfl, h1]
        obtain ⟨r, hr', hr2⟩ := ih k (lastS l n).1 (acc ++ [⟨r1, (lastS l n).1, true⟩]) w2 s2 hs2 (lastS_le l n hn).2 (by omega) (by simp; omega)
        refine ⟨r, hr', fun h => ?_⟩
        rw [hr2 h]
        simp; omega
      · omega
    · rw [if_neg he]
      exact ⟨_, rfl, fun h => absurd h he⟩
def clearC (c : S25) : S25 := ⟨c.f0, c.f1, c.f2, c.f3, false, false⟩
theorem brk_clear (l : List S25) : brk (l.map clearC) = brk l := by
  unfold brk
  rw [List.countP_map]
  rfl
theorem set_mid (A B : List S25) (c d : S25) (i : Nat) (h : A.length = i) : (A ++ c :: B).set i d = A ++ d :: B := by
  subst h; simp
theorem rd_mid (A B : List S25) (c : S25) (i : Nat) (h : A.length = i) : rd_T25 (A ++ c :: B) (i : Int) = c := by
  subst h; rw [rd25]; simp [List.getD_eq_getElem?_getD]
theorem brk_take (l : List S25) (i : Nat) (h : i < l.length) : brk (l.take (i + 1)) = brk (l.take i) + if (l[i]'h).f0 = 5 then 1 else 0 := by
  rw [List.take_succ_eq_append_getElem h]
  unfold brk
  rw [List.countP_append]
  by_cases e : (l[i]'h).f0 = 5
  · rw [if_pos e, List.countP_cons_of_pos (by simpa using e)]; rfl
  · rw [if_neg e, List.countP_cons_of_neg (by simpa using e)]; rfl
theorem brk_le (l : List S25) : brk l ≤ l.length := List.countP_le_length
theorem forced_loop (l : List S25) (hl : l.length ≤ 80) (w1 s1 w2 s2 : Int) : ∀ (m k i : Nat), i + m = l.length →
    stickfullaw14_FillForced.l0 (k + m + 1) l ((l.take i).map clearC ++ l.drop i) (brk (l.take i)) i w1 s1 w2 s2 =
      (fill_Lines.f k (l.map clearC) w1 s1 w2 s2).bind fun bt => if bt.2 = 0 then stickfullaw14_FillForced.j1 k l ((bt.1.length : Int) != ((brk l + 1 : Nat) : Int)) w1 s1 w2 s2 else stickfullaw14_FillForced.j1 k l false w1 s1 w2 s2 := by
  intro m
  induction m with
  | zero =>
    intro k i hi
    have e : i = l.length := by omega
    subst e
    rw [stickfullaw14_FillForced.l0, if_neg (by simp)]
    rw [List.take_length, List.drop_length, List.append_nil, wr1 _ (by have := brk_le l; omega)]
  | succ m ih =>
    intro k i hi
    have hlt : i < l.length := by omega
    have hA : ((l.take i).map clearC).length = i := by simp; omega
    rw [show k + (m + 1) + 1 = (k + m + 1) + 1 by omega, stickfullaw14_FillForced.l0, if_pos (by simp; omega), if_pos (by omega)]
    rw [List.drop_eq_getElem_cons hlt]
    simp only [Option.bind_some, rd_mid _ _ _ i hA, Int.toNat_natCast, set_mid _ _ _ _ i hA]
    have hst : (l.take i).map clearC ++ (⟨(l[i]'hlt).f0, (l[i]'hlt).f1, (l[i]'hlt).f2, (l[i]'hlt).f3, false, false⟩ : S25) :: l.drop (i + 1) = (l.take (i + 1)).map clearC ++ l.drop (i + 1) := by
      rw [List.take_succ_eq_append_getElem hlt, List.map_append, List.append_assoc]
      rfl
    have hbr := brk_take l i hlt
    rw [hst]
    by_cases h5 : (l[i]'hlt).f0 = 5
    · rw [if_pos h5] at hbr
      rw [if_pos h5, wr1 _ (by have := brk_le (l.take i); simp at this; omega), wr1 _ (by omega), ← hbr]
      exact ih k (i + 1) (by omega)
    · rw [if_neg h5] at hbr
      have hbr' : brk (l.take (i + 1)) = brk (l.take i) := hbr
      rw [if_neg h5, wr1 _ (by omega), ← hbr']
      exact ih k (i + 1) (by omega)
theorem le_mx (a b : Int) : a ≤ mx a b := by unfold mx; split <;> omega
theorem forced_j1 (l : List S25) (hl : l.length ≤ 80) (hI : ∀ c ∈ l, I64 c.f3) (w1 s1 w2 s2 : Int) (h1 : I64 s1) (k : Nat) : stickfullaw14_FillForced.j1 (k + 1) l false w1 s1 w2 s2 = some true := by
  obtain ⟨⟨a1, a2, a3, a4⟩, ha⟩ := one_some l (by omega) hI 0 w1 s1 h1
  obtain ⟨⟨b1, b2, b3, b4⟩, hb⟩ := one_some l (by omega) hI 0 (mx w1 (wrap64 (w1 + w2))) s1 h1
  rw [stickfullaw14_FillForced.j1, if_neg (by simp), ha, Option.bind_some, hb, Option.bind_some]
  dsimp only
  by_cases ha4 : a4 = 0
  · rw [if_pos ha4]
    by_cases hb4 : b4 = 0
    · rw [if_pos hb4]
      by_cases hw : w2 < 0
      · rw [if_pos hw]; rfl
      · subst ha4 hb4
        rw [if_neg hw, if_pos (one_wide (le_mx _ _) ha hb)]; rfl
    · rw [if_neg hb4]; rfl
  · rw [if_neg ha4]; rfl
theorem pureForced (l : List S25) (hI : ∀ c ∈ l, I64 c.f3) (w1 s1 w2 s2 : Int) (h1 : I64 s1) (h2 : I64 s2) : stickfullaw14_FillForced.f 500 l w1 s1 w2 s2 = some true := by
  unfold stickfullaw14_FillForced.f
  by_cases hl : (l.length : Int) > 80
  · rw [if_pos hl]; rfl
  · rw [if_neg hl, Option.bind_some, if_pos (by simp; omega), List.nil_append]
    have e := forced_loop l (by omega) w1 s1 w2 s2 l.length (499 - l.length) 0 (by omega)
    rw [show 499 - l.length + l.length + 1 = 500 by omega] at e
    have e0 : brk (l.take 0) = 0 := rfl
    rw [e0] at e
    simp only [List.take_zero, List.map_nil, List.nil_append, List.drop_zero, Int.natCast_zero] at e
    refine e.trans ?_
    obtain ⟨k, hk⟩ : ∃ k, 499 - l.length = k + 1 := ⟨498 - l.length, by omega⟩
    unfold fill_Lines.f
    by_cases hw : w2 < 0
    · rw [if_pos hw, Option.bind_some, if_neg (by simp), hk]
      exact forced_j1 l (by omega) hI w1 s1 w2 s2 h1 k
    · rw [if_neg hw]
      have hb := brk_le l
      obtain ⟨r, hr, hr2⟩ := lines_cnt (l.map clearC) (by simp; omega) (fun c hc => by obtain ⟨d, hd, rfl⟩ := List.mem_map.1 hc; exact hI d hd) (fun c hc => by obtain ⟨d, hd, rfl⟩ := List.mem_map.1 hc; exact ⟨rfl, rfl⟩) w2 s2 h2 (brk l) (499 - l.length - brk l - 2) 0 [] w1 s1 h1 (by omega) (by rw [List.drop_zero, brk_clear]) (by simp; omega)
      rw [show 499 - l.length - brk l - 2 + brk l + 2 = 499 - l.length by omega] at hr
      simp only [Int.natCast_zero] at hr
      rw [hr, Option.bind_some, hk]
      by_cases h0 : r.2 = 0
      · have hlen := hr2 h0
        simp only [List.length_nil, Nat.zero_add] at hlen
        have hne : ((r.1.length : Int) != ((brk l + 1 : Nat) : Int)) = false := by rw [hlen]; simp
        rw [if_pos h0, hne]
        exact forced_j1 l (by omega) hI w1 s1 w2 s2 h1 k
      · rw [if_neg h0]
        exact forced_j1 l (by omega) hI w1 s1 w2 s2 h1 k
end Go.Proofs.Ytkcmehijmgjgfaa.MFillForced
