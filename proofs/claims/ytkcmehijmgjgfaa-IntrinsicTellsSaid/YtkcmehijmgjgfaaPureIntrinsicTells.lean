/-
  The plain law of IntrinsicTells: lists and numbers alone: the program and the reference answer alike. Conditions: the cells' advances are in int64's range.
-/
import Derived.Test.YtkcmehijmgjgfaaMIntrinsicTellsx9
namespace Go.Proofs.Ytkcmehijmgjgfaa.MIntrinsicTells
open Go.RowKit Go.Proofs.YtkcmehijmgjgfaaW.PrintWords Go.Proofs.YtkcmehijmgjgfaaW.PrintLast Go.Proofs.YtkcmehijmgjgfaaW.PrintMore
set_option linter.unusedVariables false
set_option linter.unusedSimpArgs false
theorem rd25 (l : List S25) (i : Nat) : rd_T25 l (i : Int) = l.getD i z25 := by unfold rd_T25; rw [Int.toNat_natCast]
theorem wr1 (i : Nat) (h : i < 4611686018427387904) : wrap64 ((i : Int) + 1) = ((i + 1 : Nat) : Int) := by unfold wrap64; omega
def I64 (x : Int) : Prop := -9223372036854775808 ≤ x ∧ x ≤ 9223372036854775807
def goneB (roles : List Int) (i : Nat) : Bool := roles.getD i 0 == 1
theorem sum_some (l : List Int) (hl : l.length < 100) (hm : ∀ x ∈ l, I64 x) : ∃ r : Int × Int, unit_Sum.f l = some r ∧ I64 r.1 := by
  unfold unit_Sum.f
  rw [if_pos ⟨by omega, hm⟩]
  refine ⟨_, rfl, ?_⟩
  unfold fitS I64
  split <;> (try simp only []) <;> omega
theorem wrap_I (x : Int) : I64 (wrap64 x) := by unfold wrap64 I64; omega
theorem stop_some (y s : Int) (hy : I64 y) (hs : I64 s) : ∃ r : Int × Int, unit_Stop.f y s = some r ∧ I64 r.1 := by
  unfold unit_Stop.f
  by_cases h1 : s < 1
  · rw [if_pos h1]; exact ⟨_, rfl, by unfold I64; simp⟩
  · rw [if_neg h1, if_neg (by omega)]
    split
    · obtain ⟨r, h, hr⟩ := sum_some [y, wrap64 (-(wrap64 (Int.tmod y s + s))), s] (by simp) (by intro x hx; simp at hx; rcases hx with rfl | rfl | rfl <;> first | assumption | exact wrap_I _)
      rw [h]; exact ⟨_, rfl, hr⟩
    · obtain ⟨r, h, hr⟩ := sum_some [y, wrap64 (-(Int.tmod y s)), s] (by simp) (by intro x hx; simp at hx; rcases hx with rfl | rfl | rfl <;> first | assumption | exact wrap_I _)
      rw [h]; exact ⟨_, rfl, hr⟩
theorem step_some (c : S25) (y : Int) (hc : I64 c.f3) (hy : I64 y) : ∃ r : Int × Int, tabs_Step.f 1 c.f0 c.f1 c.f2 c.f3 c.f4 c.f5 y = some r ∧ I64 r.1 := by
  have z0 : I64 0 := by unfold I64; omega
  obtain ⟨r1, h1, hr1⟩ := sum_some [y] (by simp) (by intro x hx; simp at hx; subst hx; exact hy)
  have hj : ∀ b, ∃ r : Int × Int, tabs_Step.j0 1 y r1.2 b c.f0 c.f1 c.f2 c.f3 c.f4 c.f5 = some r ∧ I64 r.1 := by
    intro b
    rw [tabs_Step.j0]
    split
    · exact ⟨_, rfl, z0⟩
    · split
      · split
        · split
          · exact ⟨_, rfl, hy⟩
          · obtain ⟨r, h, hr⟩ := stop_some y c.f3 hy hc
            rw [h]; exact ⟨_, rfl, hr⟩
        · exact ⟨_, rfl, z0⟩
      · obtain ⟨r, h, hr⟩ := sum_some [y, c.f3] (by simp) (by intro x hx; simp at hx; rcases hx with rfl | rfl <;> assumption)
        rw [h]; exact ⟨_, rfl, hr⟩
  unfold tabs_Step.f
  rw [h1, Option.bind_some]
  split
  · exact hj _
  · exact hj _
theorem role_some (roles : List Int) (i : Nat) : ∃ r, tabs_role.f roles i = some r := by
  unfold tabs_role.f
  split
  · rw [if_pos (by omega)]; exact ⟨_, rfl⟩
  · exact ⟨_, rfl⟩
theorem penStep_some (roles : List Int) (i : Nat) (c : S25) (y : Int) (hc : I64 c.f3) (hy : I64 y) : ∃ r : Int × Int, penStep roles i c y = some r ∧ I64 r.1 := by
  unfold penStep
  obtain ⟨r, h⟩ := role_some roles i
  rw [h, Option.bind_some]
  split
  · exact ⟨_, rfl, hy⟩
  · exact step_some c y hc hy
theorem pensO_some (roles : List Int) : ∀ (l : List S25) (i : Nat) (y : Int), (∀ c ∈ l, I64 c.f3) → I64 y → ∃ ps, pensO roles i y l = some ps
  | [], _, _, _, _ => ⟨[], rfl⟩
  | c :: l, i, y, h, hy => by
    obtain ⟨r, h1, hr⟩ := penStep_some roles i c y (h c List.mem_cons_self) hy
    rw [pensO, h1, Option.bind_some]
    split
    · obtain ⟨ps, h2⟩ := pensO_some roles l (i + 1) r.1 (fun d hd => h d (List.mem_cons_of_mem _ hd)) hr
      rw [h2]; exact ⟨_, rfl⟩
    · exact ⟨_, rfl⟩
theorem pensO_len (roles : List Int) : ∀ (l : List S25) (i : Nat) (y : Int) (ps : List (Int × Int)), pensO roles i y l = some ps → ps.length ≤ l.length := fun l i y ps h => pensO_length h
theorem end_some (l : List S25) (roles : List Int) (x : Int) (h : ∀ c ∈ l, I64 c.f3) (hx : I64 x) (hl : l.length < 4398046511104) : ∃ r, tabs_End.f l roles x = some r := by
  have hp : ∃ r : List Int × Int, tabs_Pens.f l roles x = some r ∧ (r.2 = 0 → 1 ≤ r.1.length ∧ r.1.length < 4398046511106) := by
    unfold tabs_Pens.f
    rw [if_pos hl]
    split
    · exact ⟨_, rfl, fun h => by simp at h⟩
    · obtain ⟨s, hs, hs2⟩ := sum_some [x] (by simp) (by intro y hy; simp at hy; subst hy; exact hx)
      rw [hs, Option.bind_some]
      split
      · rename_i h0
        exact ⟨_, rfl, fun h => absurd h h0⟩
      · obtain ⟨ps, hps⟩ := pensO_some roles l 0 x h hx
        have hlen := pensO_length hps
        rw [hps]
        simp only [Option.map_some]
        split
        · rename_i hany
          refine ⟨_, rfl, fun h0 => ?_⟩
          exfalso
          obtain ⟨p, hp, hp2⟩ := List.any_eq_true.1 hany
          obtain ⟨j, hj⟩ := List.getElem?_of_mem hp
          have := pensO_last hps hj (by simpa using hp2)
          rw [this] at h0
          simp at hp2
          exact hp2 h0
        · exact ⟨_, rfl, fun _ => by simp; omega⟩
  obtain ⟨r, h1, h2⟩ := hp
  unfold tabs_End.f
  rw [h1, Option.bind_some]
  split
  · rename_i h0
    have := h2 h0
    have hw : wrap64 ((r.1.length : Int) - 1) = (r.1.length : Int) - 1 := by unfold wrap64; omega
    rw [hw, if_pos (by omega), if_pos (by omega)]
    exact ⟨_, rfl⟩
  · exact ⟨_, rfl⟩
theorem fits_some (l : List S25) (h : ∀ c ∈ l, I64 c.f3) (hl : l.length < 4398046511104) : ∃ r, trim_Fits.f l 0 = some r := by
  unfold trim_Fits.f trim_Roles.f
  rw [if_pos hl, Option.bind_some]
  exact end_some l _ 0 h (by unfold I64; omega) hl
theorem mem_tw {α : Type} (q : α → Bool) : ∀ (L : List α) (x : α), x ∈ L.takeWhile q → q x = true ∧ x ∈ L
  | [], x, h => by simp at h
  | a :: L, x, h => by
    rw [List.takeWhile_cons] at h
    split at h
    · rcases List.mem_cons.1 h with rfl | h
      · exact ⟨by assumption, List.mem_cons_self⟩
      · exact ⟨(mem_tw q L x h).1, List.mem_cons_of_mem _ (mem_tw q L x h).2⟩
    · simp at h
theorem getElem_tw {α : Type} (q : α → Bool) : ∀ (L : List α) (n : Nat) (h : n < L.length), (∀ m (hm : m ≤ n), q (L[m]'(by omega)) = true) → L[n] ∈ L.takeWhile q
  | [], n, h, _ => by simp at h
  | a :: L, 0, h, hq => by
    have := hq 0 (Nat.le_refl _)
    simp only [List.getElem_cons_zero] at this ⊢
    rw [List.takeWhile_cons, this]; simp
  | a :: L, n + 1, h, hq => by
    have h0 := hq 0 (by omega)
    simp only [List.getElem_cons_zero] at h0
    rw [List.takeWhile_cons, h0]
    simp only [List.getElem_cons_succ, if_true]
    exact List.mem_cons_of_mem _ (getElem_tw q L n (by simpa using h) (fun m hm => by have := hq (m + 1) (by omega); simpa using this))
theorem tw_getElem {α : Type} (q : α → Bool) : ∀ (L : List α) (n : Nat) (h : n < L.length), L.Nodup → L[n] ∈ L.takeWhile q → ∀ m (hm : m ≤ n), q (L[m]'(by omega)) = true
  | [], n, h, _, _ => by simp at h
  | a :: L, n, h, hn, hx => by
    intro m hm
    rw [List.takeWhile_cons] at hx
    split at hx
    · rename_i ha
      cases m with
      | zero => simpa using ha
      | succ m =>
        obtain ⟨n, rfl⟩ : ∃ k, n = k + 1 := ⟨n - 1, by omega⟩
        simp only [List.getElem_cons_succ] at hx ⊢
        rw [List.nodup_cons] at hn
        rcases List.mem_cons.1 hx with e | hx
        · exact absurd (e ▸ List.getElem_mem (by simpa using h)) hn.1
        · exact tw_getElem q L n (by simpa using h) hn.2 hx m (by omega)
    · simp at hx
theorem mem_fromUp (p : S25 → Bool) (l : List S25) (i : Nat) : i ∈ fromUp p l ↔ i < l.length ∧ ∀ j, j ≤ i → p (l.getD j z25) = true := by
  unfold fromUp
  constructor
  · intro h
    have hi := (mem_tw _ _ _ h).2
    rw [List.mem_range] at hi
    refine ⟨hi, fun j hj => ?_⟩
    have := tw_getElem (fun i => p (l.getD i z25)) (List.range l.length) i (by simpa using hi) List.nodup_range (by simpa using h) j hj
    simpa using this
  · rintro ⟨hi, h⟩
    have := getElem_tw (fun i => p (l.getD i z25)) (List.range l.length) i (by simpa using hi) (fun m hm => by simpa using h m hm)
    simpa using this
theorem mem_fromDown (p : S25 → Bool) (l : List S25) (i : Nat) : i ∈ fromDown p l ↔ i < l.length ∧ ∀ j, i ≤ j → j < l.length → p (l.getD j z25) = true := by
  unfold fromDown
  constructor
  · intro h
    have hi := (mem_tw _ _ _ h).2
    rw [List.mem_reverse, List.mem_range] at hi
    refine ⟨hi, fun j hj hjl => ?_⟩
    have := tw_getElem (fun i => p (l.getD i z25)) (List.range l.length).reverse (l.length - 1 - i) (by simp; omega) (by rw [List.Nodup, List.pairwise_reverse]; exact List.nodup_range.imp fun h => Ne.symm h) (by
      simp only [List.getElem_reverse, List.length_range, List.getElem_range]
      rw [show l.length - 1 - (l.length - 1 - i) = i by omega]; exact h) (l.length - 1 - j) (by omega)
    simp only [List.getElem_reverse, List.length_range, List.getElem_range] at this
    rwa [show l.length - 1 - (l.length - 1 - j) = j by omega] at this
  · rintro ⟨hi, h⟩
    have := getElem_tw (fun i => p (l.getD i z25)) (List.range l.length).reverse (l.length - 1 - i) (by simp; omega) (fun m hm => by
      simp only [List.getElem_reverse, List.length_range, List.getElem_range]
      exact h _ (by omega) (by omega))
    simp only [List.getElem_reverse, List.length_range, List.getElem_range] at this
    rwa [show l.length - 1 - (l.length - 1 - i) = i by omega] at this
theorem giveS_getD (l : List S25) (kind role : Int) : ∀ (xs : List Nat) (o : List Int) (i : Nat), (∀ x ∈ xs, x < o.length) → (giveS l kind role o xs).getD i 0 = if i ∈ xs ∧ (l.getD i z25).f0 = kind then role else o.getD i 0
  | [], o, i, _ => by simp [giveS]
  | a :: xs, o, i, h => by
    rw [giveS, List.foldl_cons, ← giveS, giveS_getD l kind role xs _ i (fun x hx => by rw [give1_length]; exact h x (List.mem_cons_of_mem _ hx))]
    have ha := h a List.mem_cons_self
    by_cases hm : i ∈ xs ∧ (l.getD i z25).f0 = kind
    · rw [if_pos hm, if_pos ⟨List.mem_cons_of_mem _ hm.1, hm.2⟩]
    · rw [if_neg hm]
      unfold give1
      by_cases hk : (l.getD a z25).f0 = kind
      · rw [if_pos hk]
        by_cases e : i = a
        · subst e
          rw [if_pos ⟨List.mem_cons_self, hk⟩, List.getD_eq_getElem?_getD, List.getElem?_set_self ha]; rfl
        · rw [List.getD_eq_getElem?_getD, List.getElem?_set_ne (Ne.symm e), ← List.getD_eq_getElem?_getD]
          rw [if_neg]
          rintro ⟨h1, h2⟩
          rcases List.mem_cons.1 h1 with h1 | h1
          · exact e h1
          · exact hm ⟨h1, h2⟩
      · rw [if_neg hk, if_neg]
        rintro ⟨h1, h2⟩
        rcases List.mem_cons.1 h1 with rfl | h1
        · exact hk h2
        · exact hm ⟨h1, h2⟩
/-- What becomes of a cell, by its place. -/
def LeadB (p : S25 → Bool) (l : List S25) (i : Nat) : Prop := ∀ j, j ≤ i → p (l.getD j z25) = true
def TailB (p : S25 → Bool) (l : List S25) (i : Nat) : Prop := ∀ j, i ≤ j → j < l.length → p (l.getD j z25) = true
open Classical in
theorem roles_at (l : List S25) (i : Nat) (hi : i < l.length) : (rolesS l).getD i 0 = if (l.getD i z25).f0 = 2 ∧ TailB hangB l i then 2 else if (l.getD i z25).f0 = 1 ∧ (LeadB blankB l i ∨ TailB blankB l i) then 1 else 0 := by
  unfold rolesS
  rw [giveS_getD _ _ _ _ _ _ (fun x hx => by rw [giveS_length, giveS_length, List.length_replicate]; exact ((mem_fromDown _ _ _).1 hx).1),
    giveS_getD _ _ _ _ _ _ (fun x hx => by rw [giveS_length, List.length_replicate]; exact ((mem_fromDown _ _ _).1 hx).1),
    giveS_getD _ _ _ _ _ _ (fun x hx => by rw [List.length_replicate]; exact ((mem_fromUp _ _ _).1 hx).1)]
  simp only [mem_fromDown, mem_fromUp, hi, true_and]
  have e0 : (List.replicate l.length (0 : Int)).getD i 0 = 0 := by rw [List.getD_eq_getElem?_getD, List.getElem?_replicate, if_pos hi]; rfl
  rw [e0]
  unfold LeadB TailB
  by_cases h2 : (l.getD i z25).f0 = 2
  · have h1 : ¬ (l.getD i z25).f0 = 1 := by omega
    simp only [h2, and_true, true_and]
    simp
  · by_cases h1 : (l.getD i z25).f0 = 1
    · simp only [h1, and_true, true_and]
      by_cases a : ∀ (j : Nat), i ≤ j → j < l.length → blankB (l.getD j z25) = true
      · rw [if_neg (by omega), if_pos a, if_neg (by omega), if_pos (.inr a)]
      · by_cases b : ∀ (j : Nat), j ≤ i → blankB (l.getD j z25) = true
        · rw [if_neg (by omega), if_neg a, if_pos b, if_neg (by omega), if_pos (.inl b)]
        · rw [if_neg (by omega), if_neg a, if_neg b, if_neg (by omega), if_neg (fun h => h.elim b a)]
    · rw [if_neg (fun h => h2 h.2), if_neg (fun h => h1 h.2), if_neg (fun h => h1 h.2), if_neg (fun h => h2 h.1), if_neg (fun h => h1 h.1)]
/-- Is a cell gone, if what must fit is asked? -/
def Gone (l : List S25) (i : Nat) : Prop := ((l.getD i z25).f0 = 2 ∧ TailB hangB l i) ∨ ((l.getD i z25).f0 = 1 ∧ (LeadB blankB l i ∨ TailB blankB l i))
theorem gone_iff (l : List S25) (i : Nat) (hi : i < l.length) : goneB (unhang (rolesS l)) i = true ↔ Gone l i := by
  unfold goneB unhang
  have hlen : (rolesS l).length = l.length := by unfold rolesS; simp [giveS_length]
  rw [List.getD_eq_getElem?_getD, List.getElem?_map, List.getElem?_eq_getElem (by omega)]
  have h := roles_at l i hi
  rw [List.getD_eq_getElem?_getD, List.getElem?_eq_getElem (by omega)] at h
  simp only [Option.getD_some, Option.map_some, beq_iff_eq] at h ⊢
  rw [h]
  unfold Gone
  split
  · rename_i c; exact ⟨fun _ => .inl c, fun _ => rfl⟩
  · split
    · rename_i c d; exact ⟨fun _ => .inr d, fun _ => rfl⟩
    · rename_i c d
      constructor
      · intro e; simp [unh] at e
      · rintro (e | e)
        · exact absurd e c
        · exact absurd e d
theorem fits12 (a : Int) : stickfulref12_fits.f a = some (decide (-4611686018427387904 ≤ a ∧ a ≤ 4611686018427387904)) := by
  unfold stickfulref12_fits.f
  by_cases h : a ≥ -4611686018427387904
  · rw [if_pos h]; congr 1; simp; omega
  · rw [if_neg h]; congr 1; simp; omega
theorem fits01 (a : Int) : stickfulref01_fits.f a = some (decide (-4611686018427387904 ≤ a ∧ a ≤ 4611686018427387904)) := by
  unfold stickfulref01_fits.f
  by_cases h : a ≥ -4611686018427387904
  · rw [if_pos h]; congr 1; simp; omega
  · rw [if_neg h]; congr 1; simp; omega
theorem take_sum (l : List Int) (i : Nat) (h : i < l.length) : (l.take (i + 1)).sum = (l.take i).sum + l[i] := by
  rw [List.take_succ_eq_append_getElem h, List.sum_append]; simp
theorem wrap_id (x : Int) (h : I64 x) : wrap64 x = x := by unfold I64 at h; unfold wrap64; omega
theorem ref_sum_l0 (l : List Int) (hl : l.length ≤ 90) (hm : ∀ x ∈ l, I64 x) : ∀ (d k i : Nat) (a b : Int), i ≤ l.length → l.length - i = d → d + 2 < k → a * 1000000 + b = (l.take i).sum → (-9223372036855 * (i : Int) ≤ a ∧ a ≤ 9223372036855 * (i : Int)) → (-999999 * (i : Int) ≤ b ∧ b ≤ 999999 * (i : Int)) →
    stickfulref01_Sum.l0 k l a b (i : Int) = some (fitS l.sum)
  | 0, k, i, a, b, hi, hd, hk, hs, ha, hb => by
    obtain ⟨k, rfl⟩ : ∃ m, k = m + 1 + 1 := ⟨k - 2, by omega⟩
    obtain rfl : i = l.length := by omega
    rw [List.take_length] at hs
    have t1 := Int.mul_tdiv_add_tmod b 1000000
    have t2 : -1000000 < Int.tmod b 1000000 ∧ Int.tmod b 1000000 < 1000000 := by
      rcases Int.lt_or_le b 0 with h | h
      · have := Int.tmod_lt_of_pos (-b) (show (0 : Int) < 1000000 by omega)
        have h3 := Int.tmod_nonneg 1000000 (show 0 ≤ -b by omega)
        rw [Int.neg_tmod] at this h3
        omega
      · have := Int.tmod_lt_of_pos b (show (0 : Int) < 1000000 by omega)
        have h3 := Int.tmod_nonneg 1000000 h
        omega
    obtain ⟨q, hq⟩ : ∃ q, q = Int.tdiv b 1000000 := ⟨_, rfl⟩
    obtain ⟨r, hr⟩ : ∃ r, r = Int.tmod b 1000000 := ⟨_, rfl⟩
    rw [← hq, ← hr] at t1
    rw [← hr] at t2
    have hq1 : -100 ≤ q ∧ q ≤ 100 := by omega
    have w1 : wrap64 q = q := wrap_id _ (by unfold I64; omega)
    have w2 : wrap64 (a + q) = a + q := wrap_id _ (by unfold I64; omega)
    have hj : ∀ t, (t = decide (4611686018428 < a + q ∨ a + q < -4611686018428)) → stickfulref01_Sum.j1 (k + 1) (a + q) r t = some (fitS l.sum) := by
      intro t ht
      rw [stickfulref01_Sum.j1]
      by_cases h : 4611686018428 < a + q ∨ a + q < -4611686018428
      · rw [if_pos (by rw [ht]; simpa using h), fitS_no (by omega)]
      · rw [if_neg (by rw [ht]; simpa using h)]
        have w3 : wrap64 ((a + q) * 1000000) = (a + q) * 1000000 := wrap_id _ (by unfold I64; omega)
        have w4 : wrap64 ((a + q) * 1000000 + r) = (a + q) * 1000000 + r := wrap_id _ (by unfold I64; omega)
        rw [w3, w4, fits01, Option.bind_some]
        have e : (a + q) * 1000000 + r = l.sum := by omega
        rw [e]
        by_cases hf : -4611686018427387904 ≤ l.sum ∧ l.sum ≤ 4611686018427387904
        · rw [if_pos (by simpa using hf), fitS_yes hf]
        · rw [if_neg (by simpa using hf), fitS_no hf]
    rw [stickfulref01_Sum.l0, if_neg (by omega), ← hq, ← hr, w1, w2]
    by_cases h : a + q > 4611686018428
    · rw [if_pos h]; exact hj _ (by symm; simp; omega)
    · rw [if_neg h]; exact hj _ (by apply decide_eq_decide.2; omega)
  | d + 1, k, i, a, b, hi, hd, hk, hs, ha, hb => by
    obtain ⟨k, rfl⟩ : ∃ m, k = m + 1 := ⟨k - 1, by omega⟩
    have hil : i < l.length := by omega
    have e1 : rd l (i : Int) = l[i] := by unfold rd; rw [Int.toNat_natCast, List.getD_eq_getElem?_getD, List.getElem?_eq_getElem hil]; rfl
    have hx := hm l[i] (List.getElem_mem hil)
    unfold I64 at hx
    obtain ⟨x, hxe⟩ : ∃ x, x = l[i] := ⟨_, rfl⟩
    rw [← hxe] at hx
    have t1 := Int.mul_tdiv_add_tmod x 1000000
    have t2 : -1000000 < Int.tmod x 1000000 ∧ Int.tmod x 1000000 < 1000000 := by
      rcases Int.lt_or_le x 0 with h | h
      · have := Int.tmod_lt_of_pos (-x) (show (0 : Int) < 1000000 by omega)
        have h3 := Int.tmod_nonneg 1000000 (show 0 ≤ -x by omega)
        rw [Int.neg_tmod] at this h3
        omega
      · have := Int.tmod_lt_of_pos x (show (0 : Int) < 1000000 by omega)
        have h3 := Int.tmod_nonneg 1000000 h
        omega
    have hts := take_sum l i hil
    rw [← hxe] at hts
    obtain ⟨q, hq⟩ : ∃ q, q = Int.tdiv x 1000000 := ⟨_, rfl⟩
    obtain ⟨r, hr⟩ : ∃ r, r = Int.tmod x 1000000 := ⟨_, rfl⟩
    rw [← hq, ← hr] at t1
    rw [← hr] at t2
    have hq1 : -9223372036855 ≤ q ∧ q ≤ 9223372036855 := by omega
    have w1 : wrap64 q = q := wrap_id _ (by unfold I64; omega)
    have w2 : wrap64 (a + q) = a + q := wrap_id _ (by unfold I64; omega)
    have w3 : wrap64 (b + r) = b + r := wrap_id _ (by unfold I64; omega)
    rw [stickfulref01_Sum.l0, if_pos (by omega), if_pos (by omega), e1, ← hxe, ← hq, ← hr, w1, w2, w3, wr1 i (by omega)]
    exact ref_sum_l0 l hl hm d k (i + 1) (a + q) (b + r) (by omega) (by omega) (by omega) (by rw [hts]; omega) (by omega) (by omega)
theorem ref_sum (k : Nat) (l : List Int) (hl : l.length ≤ 90) (hk : l.length + 2 < k) (hm : ∀ x ∈ l, I64 x) : stickfulref01_Sum.f k l = some (fitS l.sum) :=
  ref_sum_l0 l hl hm l.length k 0 0 0 (by omega) (by omega) hk (by simp) (by simp) (by simp)
theorem prog_sum (l : List Int) (hl : l.length ≤ 90) (hm : ∀ x ∈ l, I64 x) : unit_Sum.f l = some (fitS l.sum) := by
  unfold unit_Sum.f
  rw [if_pos ⟨by omega, hm⟩]
theorem ref_stop (k : Nat) (hk : 8 < k) (y s : Int) (hy : I64 y) (hs : I64 s) : stickfulref01_Stop.f k y s = unit_Stop.f y s := by
  unfold stickfulref01_Stop.f unit_Stop.f
  have h1 : ∀ z, stickfulref01_Sum.f k [y, wrap64 z, s] = unit_Sum.f [y, wrap64 z, s] := fun z => by
    have hm : ∀ x ∈ [y, wrap64 z, s], I64 x := by intro x hx; simp at hx; rcases hx with rfl | rfl | rfl <;> first | assumption | exact wrap_I _
    rw [ref_sum k _ (by simp) (by simp; omega) hm, prog_sum _ (by simp) hm]
  rw [h1, h1]
theorem ref_step (k : Nat) (hk : 10 < k) (c : S25) (y : Int) (hc : I64 c.f3) (hy : I64 y) : stickfulref12_Step.f k c.f0 c.f1 c.f2 c.f3 c.f4 c.f5 y = tabs_Step.f 1 c.f0 c.f1 c.f2 c.f3 c.f4 c.f5 y := by
  obtain ⟨k, rfl⟩ : ∃ m, k = m + 1 := ⟨k - 1, by omega⟩
  have hm1 : ∀ x ∈ [y], I64 x := by intro x hx; simp at hx; subst hx; exact hy
  have hm2 : ∀ x ∈ [y, c.f3], I64 x := by intro x hx; simp at hx; rcases hx with rfl | rfl <;> assumption
  unfold stickfulref12_Step.f tabs_Step.f
  rw [prog_sum [y] (by simp) hm1, Option.bind_some]
  have hj : ∀ b, stickfulref12_Step.j0 (k + 1) y b c.f0 c.f1 c.f2 c.f3 c.f4 c.f5 = tabs_Step.j0 1 y (fitS [y].sum).2 b c.f0 c.f1 c.f2 c.f3 c.f4 c.f5 := by
    intro b
    rw [stickfulref12_Step.j0, tabs_Step.j0, ref_sum k _ (by simp) (by simp; omega) hm2, prog_sum _ (by simp) hm2, ref_stop k (by omega) y c.f3 hy hc, fits12, Option.bind_some]
    have e : [y].sum = y := by simp
    rw [e]
    by_cases hf : -4611686018427387904 ≤ y ∧ y ≤ 4611686018427387904
    · rw [if_pos (show decide _ = true by simpa using hf), fitS_yes hf]; rfl
    · rw [if_neg (show ¬ decide _ = true by simpa using hf), fitS_no hf]; rfl
  rw [hj, hj]
theorem fin_cons (out : List Int) (p : Int × Int) (h : p.2 = 0) (ps : List (Int × Int)) : (if (p :: ps).any (fun p => p.2 != 0) then (([] : List Int), ((p :: ps).getLast?.getD (0, 0)).2) else (out ++ (p :: ps).map (·.1), 0)) = (if ps.any (fun p => p.2 != 0) then ([], (ps.getLast?.getD (0, 0)).2) else ((out ++ [p.1]) ++ ps.map (·.1), 0)) := by
  have e : (p :: ps).any (fun p => p.2 != 0) = ps.any (fun p => p.2 != 0) := by rw [List.any_cons, show (p.2 != 0) = false by rw [bne_eq_false_iff_eq]; exact h, Bool.false_or]
  rw [e, List.map_cons, List.append_assoc, List.singleton_append]
  cases ps with
  | nil => rfl
  | cons q ps => rw [List.getLast?_cons_cons]
theorem ref_pens_l1 (l : List S25) (roles : List Int) (hl : l.length ≤ 1000) (hm : ∀ c ∈ l, I64 c.f3) : ∀ (d k i : Nat) (y : Int) (out : List Int), i ≤ l.length → l.length - i = d → 2 * d + 20 < k → I64 y → out.length ≤ i + 1 →
    stickfulref12_Pens.l1 k l roles y out (i : Int) = (pensO roles i y (l.drop i)).map fun ps => if ps.any (fun p => p.2 != 0) then ([], (ps.getLast?.getD (0, 0)).2) else (out ++ ps.map (·.1), 0)
  | 0, k, i, y, out, hi, hd, hk, hy, ho => by
    obtain ⟨k, rfl⟩ : ∃ m, k = m + 1 := ⟨k - 1, by omega⟩
    rw [stickfulref12_Pens.l1, if_neg (by omega), List.drop_eq_nil_of_le (by omega), pensO]
    simp
  | d + 1, k, i, y, out, hi, hd, hk, hy, ho => by
    obtain ⟨k, rfl⟩ : ∃ m, k = m + 1 + 1 := ⟨k - 2, by omega⟩
    have hil : i < l.length := by omega
    obtain ⟨c, hc⟩ : ∃ c, c = l[i] := ⟨_, rfl⟩
    have hcm : I64 c.f3 := by rw [hc]; exact hm _ (List.getElem_mem hil)
    have e1 : l.getD i z25 = c := by rw [hc, List.getD_eq_getElem?_getD, List.getElem?_eq_getElem hil]; rfl
    have hstep := penStep_some roles i c y hcm hy
    have hj : ∀ b, (b = true ↔ roles.getD i 0 = 1) → stickfulref12_Pens.j2 (k + 1) l roles y out (i : Int) b = (pensO roles i y (l.drop i)).map fun ps => if ps.any (fun p => p.2 != 0) then ([], (ps.getLast?.getD (0, 0)).2) else (out ++ ps.map (·.1), 0) := by
      intro b hb
      rw [List.drop_eq_getElem_cons hil, ← hc, pensO]
      have hr : tabs_role.f roles i = some (roles.getD i 0) := by
        unfold tabs_role.f
        by_cases h : i < roles.length
        · rw [if_pos (by omega), if_pos (by omega)]; simp [rd]
        · rw [if_neg (by omega), List.getD_eq_getElem?_getD, List.getElem?_eq_none (by omega)]; rfl
      rw [stickfulref12_Pens.j2]
      cases b with
      | true =>
        rw [if_pos rfl, if_pos (by omega), wr1 i (by omega), ref_pens_l1 l roles hl hm d k (i + 1) y _ (by omega) (by omega) (by omega) hy (by simp; omega)]
        unfold penStep
        rw [hr, Option.bind_some, if_pos (hb.1 rfl), Option.bind_some, if_pos rfl, Option.map_map]
        cases pensO roles (i + 1) y (l.drop (i + 1)) with
        | none => rfl
        | some ps => exact congrArg some (fin_cons out (y, 0) rfl ps).symm
      | false =>
        have hne : roles.getD i 0 ≠ 1 := fun h => by have := hb.2 h; cases this
        rw [if_neg (by simp), if_pos (by omega), if_pos (by omega), rd25, e1, ref_step k (by omega) c y hcm hy]
        obtain ⟨p, hp, hpI⟩ := hstep
        have hp' : tabs_Step.f 1 c.f0 c.f1 c.f2 c.f3 c.f4 c.f5 y = some p := by
          unfold penStep at hp
          rw [hr, Option.bind_some, if_neg hne] at hp
          exact hp
        rw [hp', hp, Option.bind_some, Option.bind_some]
        by_cases h0 : p.2 = 0
        · rw [if_pos h0, if_pos h0, if_pos (by omega), wr1 i (by omega), ref_pens_l1 l roles hl hm d k (i + 1) p.1 _ (by omega) (by omega) (by omega) hpI (by simp; omega), Option.map_map]
          cases pensO roles (i + 1) p.1 (l.drop (i + 1)) with
          | none => rfl
          | some ps => exact congrArg some (fin_cons out p h0 ps).symm
        · rw [if_neg h0, if_neg h0]
          simp [h0]
    rw [stickfulref12_Pens.l1, if_pos (by omega)]
    by_cases h : i < roles.length
    · rw [if_pos (by omega), if_pos (by omega)]
      refine hj _ ?_
      have : rd roles (i : Int) = roles.getD i 0 := by unfold rd; rw [Int.toNat_natCast]
      rw [this]; simp
    · rw [if_neg (by omega)]
      refine hj _ ?_
      rw [List.getD_eq_getElem?_getD, List.getElem?_eq_none (by omega)]
      simp
theorem ref_pens_l0 (l : List S25) (roles : List Int) (x : Int) (hl : l.length ≤ 1000) (hm : ∀ c ∈ l, I64 c.f3) (hx : I64 x) : ∀ (d k i : Nat), i ≤ l.length → l.length - i = d → d + 2 * l.length + 30 < k → (∀ j, j < i → badTab (l.getD j z25) = false) →
    stickfulref12_Pens.l0 k l roles x (i : Int) = tabs_Pens.f l roles x
  | 0, k, i, hi, hd, hk, hall => by
    obtain ⟨k, rfl⟩ : ∃ m, k = m + 1 := ⟨k - 1, by omega⟩
    have hany : l.any badTab = false := by
      rw [List.any_eq_false]
      intro c hc
      obtain ⟨j, hj, rfl⟩ := List.getElem_of_mem hc
      have := hall j (by omega)
      rw [List.getD_eq_getElem?_getD, List.getElem?_eq_getElem hj] at this
      simpa using this
    have hm1 : ∀ y ∈ [x], I64 y := by intro y hy; simp at hy; subst hy; exact hx
    have hp : tabs_Pens.f l roles x = if (fitS x).2 ≠ 0 then some ([], (fitS x).2) else (pensO roles 0 x l).map fun ps => if ps.any (fun p => p.2 != 0) then ([], (ps.getLast?.getD (0, 0)).2) else (x :: ps.map (·.1), 0) := by
      unfold tabs_Pens.f
      rw [if_pos (by omega), hany, if_neg (by simp), prog_sum [x] (by simp) hm1, Option.bind_some, show [x].sum = x by simp]
    rw [hp, stickfulref12_Pens.l0, if_neg (by omega), fits12, Option.bind_some]
    by_cases hf : -4611686018427387904 ≤ x ∧ x ≤ 4611686018427387904
    · rw [if_pos (show decide _ = true by simpa using hf), fitS_yes hf, if_neg (by simp)]
      have := ref_pens_l1 l roles hl hm l.length k 0 x [x] (by omega) (by omega) (by omega) hx (by simp)
      rw [List.drop_zero] at this
      exact this
    · rw [if_neg (show ¬ decide _ = true by simpa using hf), fitS_no hf, if_pos (by simp)]
  | d + 1, k, i, hi, hd, hk, hall => by
    obtain ⟨k, rfl⟩ : ∃ m, k = m + 1 := ⟨k - 1, by omega⟩
    have hil : i < l.length := by omega
    have ih := ref_pens_l0 l roles x hl hm hx d k (i + 1) (by omega) (by omega) (by omega)
    rw [stickfulref12_Pens.l0, if_pos (by omega), if_pos (by omega), rd25, wr1 i (by omega)]
    have hbad : badTab (l.getD i z25) = true → tabs_Pens.f l roles x = some ([], 2) := by
      intro hb
      unfold tabs_Pens.f
      rw [if_pos (by omega), if_pos]
      rw [List.any_eq_true]
      refine ⟨l[i], List.getElem_mem hil, ?_⟩
      rwa [List.getD_eq_getElem?_getD, List.getElem?_eq_getElem hil] at hb
    have hgood : badTab (l.getD i z25) = false → stickfulref12_Pens.l0 k l roles x ((i + 1 : Nat) : Int) = tabs_Pens.f l roles x := fun hb => ih (fun j hj => by
      by_cases e : j = i
      · subst e; exact hb
      · exact hall j (by omega))
    by_cases h1 : (l.getD i z25).f0 = 4
    · rw [if_pos h1]
      by_cases h2 : (l.getD i z25).f3 < 0
      · rw [if_pos h2, hbad (by unfold badTab; rw [beq_iff_eq.2 h1, decide_eq_true h2]; rfl)]
      · rw [if_neg h2, hgood (by unfold badTab; rw [decide_eq_false h2]; simp)]
    · rw [if_neg h1, hgood (by unfold badTab; rw [beq_eq_false_iff_ne.2 h1]; rfl)]
theorem ref_pens (k : Nat) (l : List S25) (roles : List Int) (x : Int) (hl : l.length ≤ 1000) (hm : ∀ c ∈ l, I64 c.f3) (hx : I64 x) (hk : 3 * l.length + 30 < k) : stickfulref12_Pens.f k l roles x = tabs_Pens.f l roles x :=
  ref_pens_l0 l roles x hl hm hx l.length k 0 (by omega) (by omega) (by omega) (fun j hj => by omega)
theorem ref_end (k : Nat) (l : List S25) (roles : List Int) (x : Int) (hl : l.length ≤ 1000) (hm : ∀ c ∈ l, I64 c.f3) (hx : I64 x) (hk : 3 * l.length + 30 < k) : stickfulref12_End.f k l roles x = tabs_End.f l roles x := by
  unfold stickfulref12_End.f tabs_End.f
  rw [ref_pens k l roles x hl hm hx hk]
theorem edge13 (c : S25) : stickfulref13_edge.f c.f0 c.f1 c.f2 c.f3 c.f4 c.f5 = some (edgeB c) := by
  unfold stickfulref13_edge.f edgeB
  by_cases h1 : c.f0 = 7
  · rw [if_pos h1, h1]; rfl
  · rw [if_neg h1]
    by_cases h2 : c.f0 = 8
    · rw [if_pos h2, h2]; rfl
    · rw [if_neg h2, beq_eq_false_iff_ne.2 h1, beq_eq_false_iff_ne.2 h2]; rfl
def justB (a b : Int) (c : S25) : Bool := edgeB c || c.f0 == a || c.f0 == b
theorem just_l0 (l : List S25) (a b : Int) (hl : l.length ≤ 1000000) : ∀ (d k i : Nat), i ≤ l.length → l.length - i = d → d < k → stickfulref13_just.l0 k l a b (i : Int) = some ((l.drop i).all (justB a b))
  | 0, k, i, hi, hd, hk => by
    obtain ⟨k, rfl⟩ : ∃ m, k = m + 1 := ⟨k - 1, by omega⟩
    rw [stickfulref13_just.l0, if_neg (by omega), List.drop_eq_nil_of_le (by omega)]; rfl
  | d + 1, k, i, hi, hd, hk => by
    obtain ⟨k, rfl⟩ : ∃ m, k = m + 1 := ⟨k - 1, by omega⟩
    have hil : i < l.length := by omega
    rw [stickfulref13_just.l0, if_pos (by omega), if_pos (by omega), rd25, edge13, Option.bind_some, wr1 i (by omega), just_l0 l a b hl d k (i + 1) (by omega) (by omega) (by omega), List.drop_eq_getElem_cons hil, List.all_cons]
    have e1 : l.getD i z25 = l[i] := by rw [List.getD_eq_getElem?_getD, List.getElem?_eq_getElem hil]; rfl
    rw [e1]
    unfold justB
    by_cases h1 : edgeB l[i] = true
    · rw [if_pos h1, h1]; rfl
    · rw [if_neg h1, (by simpa using h1 : edgeB l[i] = false)]
      by_cases h2 : l[i].f0 = a
      · rw [if_pos h2, beq_iff_eq.2 h2]; rfl
      · rw [if_neg h2, beq_eq_false_iff_ne.2 h2]
        by_cases h3 : l[i].f0 = b
        · rw [if_pos h3, beq_iff_eq.2 h3]; rfl
        · rw [if_neg h3, beq_eq_false_iff_ne.2 h3]; rfl
theorem ref_just (k : Nat) (l : List S25) (a b : Int) (hl : l.length ≤ 1000000) (hk : l.length < k) : stickfulref13_just.f k l a b = some (l.all (justB a b)) :=
  just_l0 l a b hl l.length k 0 (by omega) (by omega) hk
theorem all_take (p : S25 → Bool) (l : List S25) (i : Nat) (hi : i ≤ l.length) : (l.take i).all p = true ↔ ∀ j, j < i → p (l.getD j z25) = true := by
  rw [List.all_eq_true]
  constructor
  · intro h j hj
    have : l.getD j z25 = l[j] := by rw [List.getD_eq_getElem?_getD, List.getElem?_eq_getElem (by omega)]; rfl
    rw [this]
    exact h _ (by rw [List.mem_take_iff_getElem]; exact ⟨j, by omega, rfl⟩)
  · intro h c hc
    rw [List.mem_take_iff_getElem] at hc
    obtain ⟨j, hj, rfl⟩ := hc
    have := h j (by omega)
    rwa [List.getD_eq_getElem?_getD, List.getElem?_eq_getElem (by omega)] at this
theorem all_drop (p : S25 → Bool) (l : List S25) (i : Nat) : (l.drop i).all p = true ↔ ∀ j, i ≤ j → j < l.length → p (l.getD j z25) = true := by
  rw [List.all_eq_true]
  constructor
  · intro h j hj hjl
    have : l.getD j z25 = l[j] := by rw [List.getD_eq_getElem?_getD, List.getElem?_eq_getElem (by omega)]; rfl
    rw [this]
    exact h _ (by rw [List.mem_drop_iff_getElem]; exact ⟨j - i, by omega, by congr 1; omega⟩)
  · intro h c hc
    rw [List.mem_drop_iff_getElem] at hc
    obtain ⟨j, hj, rfl⟩ := hc
    have := h (i + j) (by omega) (by omega)
    rwa [List.getD_eq_getElem?_getD, List.getElem?_eq_getElem (by omega)] at this
theorem just11 (c : S25) : justB 1 1 c = blankB c := by unfold justB blankB; cases edgeB c <;> cases c.f0 == 1 <;> rfl
theorem just12 (c : S25) : justB 1 2 c = hangB c := by unfold justB hangB blankB; rfl
theorem ref_role (k : Nat) (l : List S25) (i : Nat) (hi : i < l.length) (hl : l.length ≤ 1000) (hk : l.length + 2 < k) : stickfulref13_Role.f k l (i : Int) = some ((rolesS l).getD i 0) := by
  obtain ⟨k, rfl⟩ : ∃ m, k = m + 1 := ⟨k - 1, by omega⟩
  have en : ((i : Int)).toNat = i := Int.toNat_natCast i
  have en1 : (((i + 1 : Nat) : Int)).toNat = i + 1 := Int.toNat_natCast _
  rw [roles_at l i hi]
  unfold stickfulref13_Role.f
  rw [if_pos (by omega), if_pos (by omega), rd25, en, wr1 i (by omega), en1]
  have hj : ∀ b, (b = true → (l.getD i z25).f0 = 1) → stickfulref13_Role.j0 (k + 1) l (i : Int) b = some (if b = true then 1 else if (l.drop (i + 1)).all (justB 1 2) = true ∧ (l.getD i z25).f0 = 2 then 2 else 0) := by
    intro b hb
    rw [stickfulref13_Role.j0]
    cases b with
    | true => rfl
    | false =>
      rw [if_neg (by simp), if_pos (by omega), if_pos (by omega), rd25, wr1 i (by omega), en1, if_neg (show ¬ (false = true) by simp)]
      by_cases h2 : (l.getD i z25).f0 = 2
      · rw [if_pos h2, if_pos (by omega), if_pos (by omega), ref_just k _ 1 2 (by simp; omega) (by simp; omega), Option.bind_some]
        by_cases h3 : (l.drop (i + 1)).all (justB 1 2) = true
        · rw [if_pos h3, if_pos ⟨h3, h2⟩]
        · rw [if_neg h3, if_neg (fun h => h3 h.1)]
      · rw [if_neg h2, if_neg (fun h => h2 h.2)]
  have ht : (l.getD i z25).f0 = 2 → ((l.drop (i + 1)).all (justB 1 2) = true ↔ TailB hangB l i) := by
    intro h2
    rw [all_drop]
    unfold TailB
    constructor
    · intro h j h3 h4
      by_cases e : j = i
      · subst e; unfold hangB; rw [h2]; simp
      · rw [← just12]; exact h j (by omega) h4
    · intro h j h3 h4
      rw [just12]; exact h j (by omega) h4
  have hu : (l.getD i z25).f0 = 1 → ((l.drop (i + 1)).all (justB 1 1) = true ↔ TailB blankB l i) := by
    intro h2
    rw [all_drop]
    unfold TailB
    constructor
    · intro h j h3 h4
      by_cases e : j = i
      · subst e; unfold blankB; rw [h2]; simp
      · rw [← just11]; exact h j (by omega) h4
    · intro h j h3 h4
      rw [just11]; exact h j (by omega) h4
  have hv : (l.getD i z25).f0 = 1 → ((l.take i).all (justB 1 1) = true ↔ LeadB blankB l i) := by
    intro h2
    rw [all_take _ _ _ (by omega)]
    unfold LeadB
    constructor
    · intro h j h3
      by_cases e : j = i
      · subst e; unfold blankB; rw [h2]; simp
      · rw [← just11]; exact h j (by omega)
    · intro h j h3
      rw [just11]; exact h j (by omega)
  by_cases h1 : (l.getD i z25).f0 = 1
  · rw [if_pos h1, if_pos (by omega), ref_just (k + 1) _ 1 1 (by simp; omega) (by simp; omega), Option.bind_some]
    rw [if_neg (show ¬((l.getD i z25).f0 = 2 ∧ TailB hangB l i) from fun h => by omega)]
    by_cases a : LeadB blankB l i
    · rw [if_pos ((hv h1).2 a), hj true (fun _ => h1), if_pos rfl, if_pos ⟨h1, .inl a⟩]
    · rw [if_neg (fun h => a ((hv h1).1 h)), if_pos (by omega), if_pos (by omega), ref_just (k + 1) _ 1 1 (by simp; omega) (by simp; omega), Option.bind_some, hj _ (fun _ => h1)]
      by_cases b : TailB blankB l i
      · rw [if_pos ((hu h1).2 b), if_pos ⟨h1, .inr b⟩]
      · rw [if_neg (fun h => b ((hu h1).1 h)), if_neg (fun h => by omega), if_neg (fun h => h.2.elim a b)]
  · rw [if_neg h1, hj false (fun h => by cases h), if_neg (by simp)]
    by_cases h2 : (l.getD i z25).f0 = 2
    · by_cases a : TailB hangB l i
      · rw [if_pos ⟨(ht h2).2 a, h2⟩, if_pos ⟨h2, a⟩]
      · rw [if_neg (fun h => a ((ht h2).1 h.1)), if_neg (fun h => a h.2), if_neg (fun h => h1 h.1)]
    · rw [if_neg (fun h => h2 h.2), if_neg (fun h => h2 h.1), if_neg (fun h => h1 h.1)]
theorem rolesS_len (l : List S25) : (rolesS l).length = l.length := by unfold rolesS; simp [giveS_length]
theorem ref_roles_l0 (l : List S25) (hl : l.length ≤ 1000) : ∀ (d k i : Nat), i ≤ l.length → l.length - i = d → d + l.length + 4 < k → stickfulref13_Roles.l0 k l ((rolesS l).take i) (i : Int) = some (rolesS l)
  | 0, k, i, hi, hd, hk => by
    obtain ⟨k, rfl⟩ : ∃ m, k = m + 1 := ⟨k - 1, by omega⟩
    rw [stickfulref13_Roles.l0, if_neg (by omega), List.take_of_length_le (by rw [rolesS_len]; omega)]
  | d + 1, k, i, hi, hd, hk => by
    obtain ⟨k, rfl⟩ : ∃ m, k = m + 1 := ⟨k - 1, by omega⟩
    have hil : i < l.length := by omega
    have hr : i < (rolesS l).length := by rw [rolesS_len]; exact hil
    rw [stickfulref13_Roles.l0, if_pos (by omega), ref_role k l i hil hl (by omega), Option.bind_some, if_pos (by rw [List.length_take]; omega), wr1 i (by omega)]
    have e : (rolesS l).take i ++ [(rolesS l).getD i 0] = (rolesS l).take (i + 1) := by
      rw [List.take_succ_eq_append_getElem hr, List.getD_eq_getElem?_getD, List.getElem?_eq_getElem hr]; rfl
    rw [e]
    exact ref_roles_l0 l hl d k (i + 1) (by omega) (by omega) (by omega)
theorem ref_roles (k : Nat) (l : List S25) (hl : l.length ≤ 1000) (hk : 2 * l.length + 4 < k) : stickfulref13_Roles.f k l = some (rolesS l) :=
  ref_roles_l0 l hl l.length k 0 (by omega) (by omega) (by omega)
theorem ref_fits_l0 (l : List S25) (x : Int) (o : List Int) (hl : l.length ≤ 1000) (hol : o.length = l.length) (hm : ∀ c ∈ l, I64 c.f3) (hx : I64 x) : ∀ (d k i : Nat), i ≤ o.length → o.length - i = d → d + 3 * l.length + 40 < k →
    stickfulref13_Fits.l0 k l x ((o.take i).map unh ++ o.drop i) (i : Int) = tabs_End.f l (unhang o) x
  | 0, k, i, hi, hd, hk => by
    obtain ⟨k, rfl⟩ : ∃ m, k = m + 1 := ⟨k - 1, by omega⟩
    have hlen : ((o.take i).map unh ++ o.drop i).length = o.length := by simp; omega
    rw [stickfulref13_Fits.l0, hlen, if_neg (by omega), List.drop_eq_nil_of_le (by omega), List.append_nil, List.take_of_length_le (by omega)]
    rw [ref_end k l _ x hl hm hx (by omega)]
    unfold unhang
    cases tabs_End.f l (o.map unh) x with
    | none => rfl
    | some r => rfl
  | d + 1, k, i, hi, hd, hk => by
    obtain ⟨k, rfl⟩ : ∃ m, k = m + 1 := ⟨k - 1, by omega⟩
    have hil : i < o.length := by omega
    have hlen : ((o.take i).map unh ++ o.drop i).length = o.length := by simp; omega
    have hti : ((o.take i).map unh).length = i := by simp; omega
    have hrd : rd ((o.take i).map unh ++ o.drop i) (i : Int) = o[i] := by
      unfold rd
      rw [Int.toNat_natCast, List.getD_eq_getElem?_getD, List.getElem?_append_right (by omega), hti, Nat.sub_self, List.getElem?_drop, Nat.add_zero, List.getElem?_eq_getElem hil]; rfl
    have hnx : (o.take (i + 1)).map unh ++ o.drop (i + 1) = ((o.take i).map unh ++ o.drop i).set i (unh o[i]) := by
      rw [List.take_succ_eq_append_getElem hil, List.drop_eq_getElem_cons hil, List.set_append_right _ _ (by omega), hti, Nat.sub_self, List.set_cons_zero, List.map_append, List.append_assoc]
      rfl
    rw [stickfulref13_Fits.l0, hlen, if_pos (by omega), if_pos (by omega), hrd, wr1 i (by omega), Int.toNat_natCast]
    have ih := ref_fits_l0 l x o hl hol hm hx d k (i + 1) (by omega) (by omega) (by omega)
    rw [hnx] at ih
    by_cases h2 : o[i] = 2
    · rw [if_pos h2]
      rw [h2] at ih
      exact ih
    · rw [if_neg h2]
      have : unh o[i] = o[i] := if_neg h2
      rw [this] at ih
      have hs : ((o.take i).map unh ++ o.drop i).set i o[i] = (o.take i).map unh ++ o.drop i := by
        rw [List.drop_eq_getElem_cons hil, List.set_append_right _ _ (by omega), hti, Nat.sub_self, List.set_cons_zero]
      rw [hs] at ih
      exact ih
theorem ref_fits (k : Nat) (l : List S25) (x : Int) (hl : l.length ≤ 1000) (hm : ∀ c ∈ l, I64 c.f3) (hx : I64 x) (hk : 4 * l.length + 50 < k) : stickfulref13_Fits.f k l x = trim_Fits.f l x := by
  unfold stickfulref13_Fits.f trim_Fits.f trim_Roles.f
  rw [ref_roles k l hl (by omega), if_pos (by omega), Option.bind_some, Option.bind_some]
  exact ref_fits_l0 l x (rolesS l) hl (rolesS_len l) hm hx (rolesS l).length k 0 (by omega) (by omega) (by rw [rolesS_len]; omega)
theorem partsL_P (cut : S25 → Bool) (l : List S25) : Parts cut l 0 (partsL cut l) := by
  by_cases h0 : 0 < l.length
  · exact parts_go cut l l.length 0 0 (by omega) (by omega) h0 (fun j h1 h2 => by omega)
  · obtain rfl : l = [] := List.eq_nil_of_length_eq_zero (by omega)
    exact .nil
abbrev nv : S25 → Bool := fun _ => false
theorem lines_f (l : List S25) (h : l.length < 4398046511104) : intrinsic_Lines.f l = some ((partsL nv l).map toS43) := by unfold intrinsic_Lines.f; rw [if_pos h]
theorem pieces_f (l : List S25) (h : l.length < 4398046511104) : intrinsic_Pieces.f l = some ((partsL softB l).map toS43) := by unfold intrinsic_Pieces.f; rw [if_pos h]
def cutB (soft : Bool) (c : S25) : Bool := soft && softB c
/-- What the reference still adds from cell i on: a part begins at s; first: none of its cells has come. -/
theorem ref_cuts_l0 (l : List S25) (soft : Bool) (hl : l.length ≤ 1000) : ∀ (d k i s : Nat) (out : List S43) (first : Bool), i ≤ l.length → l.length - i = d → 2 * d + 4 < k → out.length ≤ 2 * i →
    ((first = true ∧ s = i) ∨ (first = false ∧ s < i ∧ i < l.length ∧ (l.getD (i - 1) z25).f0 ≠ 5)) ∨ (first = false ∧ s < i ∧ i = l.length) →
    stickfulref21_Cuts.l0 k l soft out (s : Int) first (i : Int) = some (out ++ (if first = true then partsGo (cutB soft) s i (l.drop i) else if h : i < l.length then (if cutB soft l[i] = true then (s, i) :: partsGo (cutB soft) i i (l.drop i) else partsGo (cutB soft) s i (l.drop i)) else [(s, i)]).map toS43)
  | 0, k, i, s, out, first, hi, hd, hk, ho, hs => by
    obtain ⟨k, rfl⟩ : ∃ m, k = m + 1 := ⟨k - 1, by omega⟩
    obtain rfl : i = l.length := by omega
    rw [stickfulref21_Cuts.l0, if_neg (by omega), List.drop_length, partsGo]
    cases first with
    | true =>
      have : s = l.length := by
        rcases hs with (h | h) | h
        · exact h.2
        · exact absurd h.1 (by simp)
        · exact absurd h.1 (by simp)
      rw [if_neg (by omega), if_pos rfl]; simp
    | false =>
      have : s < l.length := by
        rcases hs with (h | h) | h
        · exact absurd h.1 (by simp)
        · exact h.2.1
        · exact h.2.1
      rw [if_pos (by omega), if_pos (by omega), if_neg (by simp), dif_neg (by omega)]
      rfl
  | d + 1, k, i, s, out, first, hi, hd, hk, ho, hs => by
    obtain ⟨k, rfl⟩ : ∃ m, k = m + 1 + 1 := ⟨k - 2, by omega⟩
    have hil : i < l.length := by omega
    have e1 : l.getD i z25 = l[i] := by rw [List.getD_eq_getElem?_getD, List.getElem?_eq_getElem hil]; rfl
    -- behind the cut, if there is one
    have next : ∀ (s : Nat) (out : List S43), s ≤ i → out.length ≤ 2 * i + 1 →
        (if ((rd_T25 l (i : Int)).f0) = 5 then (if out.length < 8796093022208 then (stickfulref21_Cuts.l0 k l soft (out ++ [(⟨(s : Int), wrap64 ((i : Int) + 1)⟩ : S43)]) (wrap64 ((i : Int) + 1)) true (wrap64 ((i : Int) + 1))) else (none)) else (stickfulref21_Cuts.l0 k l soft out (s : Int) false (wrap64 ((i : Int) + 1)))) = some (out ++ (partsGo (cutB soft) s i (l.drop i)).map toS43) := by
      intro s out hsi ho
      rw [rd25, e1, wr1 i (by omega), List.drop_eq_getElem_cons hil]
      by_cases h5 : l[i].f0 = 5
      · rw [if_pos h5, if_pos (by omega), ref_cuts_l0 l soft hl d k (i + 1) (i + 1) _ true (by omega) (by omega) (by omega) (by simp; omega) (.inl (.inl ⟨rfl, rfl⟩)), if_pos rfl]
        by_cases hn : i + 1 < l.length
        · rw [List.drop_eq_getElem_cons hn, partsGo, if_pos (.inl h5)]
          simp [toS43]
        · rw [List.drop_eq_nil_of_le (by omega), partsGo, partsGo]
          simp [toS43]
      · rw [if_neg h5]
        by_cases hn : i + 1 < l.length
        · rw [ref_cuts_l0 l soft hl d k (i + 1) s _ false (by omega) (by omega) (by omega) (by omega) (.inl (.inr ⟨rfl, by omega, hn, by rw [Nat.add_sub_cancel, e1]; exact h5⟩)), if_neg (by simp), dif_pos hn]
          rw [List.drop_eq_getElem_cons hn, partsGo]
          by_cases hc : cutB soft l[i + 1] = true
          · rw [if_pos hc, if_pos (.inr hc)]
          · rw [if_neg hc, if_neg (fun h => h.elim h5 hc)]
        · rw [ref_cuts_l0 l soft hl d k (i + 1) s _ false (by omega) (by omega) (by omega) (by omega) (.inr ⟨rfl, by omega, by omega⟩), if_neg (by simp), dif_neg hn, List.drop_eq_nil_of_le (by omega), partsGo]
    have j1f : stickfulref21_Cuts.j1 (k + 1) l soft out (s : Int) (i : Int) false = some (out ++ (partsGo (cutB soft) s i (l.drop i)).map toS43) := by
      rw [stickfulref21_Cuts.j1, if_neg (by simp), if_pos (by omega), if_pos (by omega)]
      refine next s out ?_ (by omega)
      rcases hs with (h | h) | h <;> omega
    have j1t : stickfulref21_Cuts.j1 (k + 1) l soft out (s : Int) (i : Int) true = some (out ++ ((s, i) :: partsGo (cutB soft) i i (l.drop i)).map toS43) := by
      rw [stickfulref21_Cuts.j1, if_pos rfl, if_pos (by omega), Option.bind_some, if_pos (by omega), if_pos (by omega), next i _ (Nat.le_refl _) (by simp; omega)]
      simp [toS43]
    rw [stickfulref21_Cuts.l0, if_pos (by omega)]
    cases first with
    | true => rw [if_pos rfl, if_pos rfl]; exact j1f
    | false =>
      rw [if_neg (show ¬ (false = true) by simp), if_neg (show ¬ (false = true) by simp), dif_pos hil]
      cases soft with
      | false => rw [if_neg (show ¬ (false = true) by simp), if_neg (show ¬ (cutB false l[i] = true) by simp [cutB])]; exact j1f
      | true =>
        rw [if_pos rfl, if_pos (by omega), rd25, e1]
        have hc : cutB true l[i] = (l[i].f4 || l[i].f5) := rfl
        rw [hc]
        by_cases h4 : l[i].f4 = true
        · rw [if_pos h4, if_pos (by rw [h4]; rfl)]; exact j1t
        · rw [if_neg h4]
          have h4' : l[i].f4 = false := by simpa using h4
          cases h5 : l[i].f5 with
          | true => rw [if_pos (by rw [h4']; rfl)]; exact j1t
          | false => rw [if_neg (by rw [h4']; simp)]; exact j1f
theorem ref_cuts (k : Nat) (l : List S25) (soft : Bool) (hl : l.length ≤ 1000) (hk : 2 * l.length + 4 < k) : stickfulref21_Cuts.f k l soft = some ((partsL (cutB soft) l).map toS43) := by
  have := ref_cuts_l0 l soft hl l.length k 0 0 [] true (by omega) (by omega) hk (by simp) (.inl (.inl ⟨rfl, rfl⟩))
  rw [if_pos rfl, List.drop_zero, List.nil_append] at this
  exact this
def errO (r : Int × Int) : Int × Int := if r.2 = 0 then r else (0, r.2)
theorem mx_max (a b : Int) : mx a b = max a b := by unfold mx; omega
theorem rd43 (p : List (Nat × Nat)) (i : Nat) (h : i < p.length) : rd_T43 (p.map toS43) (i : Int) = toS43 p[i] := by
  unfold rd_T43
  rw [Int.toNat_natCast, List.getD_eq_getElem?_getD, List.getElem?_map, List.getElem?_eq_getElem h]; rfl
theorem ref_widest_l0 (l : List S25) (ps : List (Nat × Nat)) (rs : List (Int × Int)) (hl : l.length ≤ 1000) (hpl : ps.length ≤ 1000) (hm : ∀ c ∈ l, I64 c.f3) (hp : ∀ p ∈ ps, p.1 < p.2 ∧ p.2 ≤ l.length) (h : fitsO l ps = some rs) :
    ∀ (d k i : Nat) (n : Int), i ≤ ps.length → ps.length - i = d → d + 4 * l.length + 60 < k → stickfulref21_widest.l0 k l (ps.map toS43) n (i : Int) = some (errO (greatO n (rs.drop i)))
  | 0, k, i, n, hi, hd, hk => by
    obtain ⟨k, rfl⟩ : ∃ m, k = m + 1 := ⟨k - 1, by omega⟩
    have hrl := (fitsO_at h).1
    rw [stickfulref21_widest.l0, List.length_map, if_neg (by omega), List.drop_eq_nil_of_le (by omega)]
    rfl
  | d + 1, k, i, n, hi, hd, hk => by
    obtain ⟨k, rfl⟩ : ∃ m, k = m + 1 := ⟨k - 1, by omega⟩
    have hip : i < ps.length := by omega
    obtain ⟨hrl, hat⟩ := fitsO_at h
    have hir : i < rs.length := by omega
    have hf := hat i hip hir
    obtain ⟨h1, h2⟩ := hp _ (List.getElem_mem hip)
    have e0 : (toS43 ps[i]).f0 = ((ps[i].1 : Nat) : Int) := rfl
    have e1 : (toS43 ps[i]).f1 = ((ps[i].2 : Nat) : Int) := rfl
    rw [stickfulref21_widest.l0, List.length_map, if_pos (by omega), if_pos (by omega), rd43 ps i hip, e0, e1, if_pos (by omega), if_pos (by omega), if_pos (by omega), Int.toNat_natCast, Int.toNat_natCast]
    rw [ref_fits k _ 0 (by rw [List.length_drop, List.length_take]; omega) (fun c hc => hm c (List.mem_of_mem_take (List.mem_of_mem_drop hc))) (by unfold I64; omega) (by rw [List.length_drop, List.length_take]; omega), hf, Option.bind_some, wr1 i (by omega), List.drop_eq_getElem_cons hir, greatO, mx_max]
    by_cases h0 : rs[i].2 = 0
    · rw [if_pos h0, if_pos h0]
      exact ref_widest_l0 l ps rs hl hpl hm hp h d k (i + 1) _ (by omega) (by omega) (by omega)
    · rw [if_neg h0, if_neg h0]
      unfold errO
      rw [if_neg h0]
theorem ref_widest (k : Nat) (l : List S25) (ps : List (Nat × Nat)) (rs : List (Int × Int)) (n : Int) (hl : l.length ≤ 1000) (hpl : ps.length ≤ 1000) (hm : ∀ c ∈ l, I64 c.f3) (hp : ∀ p ∈ ps, p.1 < p.2 ∧ p.2 ≤ l.length) (h : fitsO l ps = some rs) (hk : ps.length + 4 * l.length + 60 < k) :
    stickfulref21_widest.f k l (ps.map toS43) n = some (errO (greatO n rs)) :=
  ref_widest_l0 l ps rs hl hpl hm hp h ps.length k 0 n (by omega) (by omega) hk
theorem fitsO_some (l : List S25) (h : ∀ c ∈ l, I64 c.f3) (hl : l.length < 4398046511104) : ∀ ps : List (Nat × Nat), ∃ rs, fitsO l ps = some rs
  | [] => ⟨[], rfl⟩
  | p :: ps => by
    obtain ⟨r, h1⟩ := fits_some ((l.take p.2).drop p.1) (fun c hc => h c (List.mem_of_mem_take (List.mem_of_mem_drop hc))) (by rw [List.length_drop, List.length_take]; omega)
    obtain ⟨rs, h2⟩ := fitsO_some l h hl ps
    rw [fitsO, h1, Option.bind_some, h2]
    exact ⟨_, rfl⟩
theorem cutB_t : cutB true = softB := by funext c; rfl
theorem cutB_f : cutB false = nv := by funext c; rfl
theorem sameB_refl : ∀ l : List S43, sameB l l = true
  | [] => rfl
  | a :: l => by rw [sameB, sameB_refl l]; simp
theorem minmax_same (k : Nat) (l : List S25) (hl : l.length ≤ 120) (hm : ∀ c ∈ l, I64 c.f3) (hk : 700 < k) : ∃ r, intrinsic_MinMax.f l = some r ∧ stickfulref21_MinMax.f k l = some r := by
  obtain ⟨rs, hr⟩ := fitsO_some l hm (by omega) (partsL softB l)
  obtain ⟨qs, hq⟩ := fitsO_some l hm (by omega) (partsL nv l)
  have p1 := partsL_length softB l
  have p2 := partsL_length nv l
  unfold intrinsic_MinMax.f stickfulref21_MinMax.f
  rw [if_pos (by omega), hr, Option.bind_some, ref_cuts k l true (by omega) (by omega), cutB_t, Option.bind_some, ref_widest k l _ rs 0 (by omega) (by omega) hm (fun p hp => by have := parts_all (partsL_P softB l) p hp; exact ⟨this.1, this.2.1⟩) hr (by omega), Option.bind_some]
  by_cases h0 : (greatO 0 rs).2 = 0
  · have e0 : errO (greatO 0 rs) = greatO 0 rs := if_pos h0
    rw [if_pos h0, e0, if_pos h0, ref_cuts k l false (by omega) (by omega), cutB_f, Option.bind_some, hq, Option.bind_some, ref_widest k l _ qs _ (by omega) (by omega) hm (fun p hp => by have := parts_all (partsL_P nv l) p hp; exact ⟨this.1, this.2.1⟩) hq (by omega), Option.bind_some]
    by_cases h1 : (greatO (greatO 0 rs).1 qs).2 = 0
    · have e1 : errO (greatO (greatO 0 rs).1 qs) = greatO (greatO 0 rs).1 qs := if_pos h1
      rw [if_pos h1, e1, if_pos h1]; exact ⟨_, rfl, rfl⟩
    · have e1 : errO (greatO (greatO 0 rs).1 qs) = (0, (greatO (greatO 0 rs).1 qs).2) := if_neg h1
      rw [if_neg h1, e1, if_neg h1]; exact ⟨_, rfl, rfl⟩
  · have e0 : errO (greatO 0 rs) = (0, (greatO 0 rs).2) := if_neg h0
    rw [if_neg h0, e0, if_neg h0]; exact ⟨_, rfl, rfl⟩
theorem same_refl (l : List S43) (h : l.length < 4398046511104) : stickfulref21_Same.f l l = some true := by
  unfold stickfulref21_Same.f
  rw [if_pos h, sameB_refl]
/-- The plain law. -/
theorem pureTells (l : List S25) (hm : ∀ c ∈ l, I64 c.f3) : stickfullaw21_IntrinsicTells.f 1000 l = some true := by
  have hh : stickfullaw21_head.f = some true := rfl
  unfold stickfullaw21_IntrinsicTells.f stickfullaw21_great.f
  rw [Option.bind_some]
  by_cases h : (l.length : Int) > 120
  · rw [if_pos (by simpa using h), hh]; rfl
  · rw [if_neg (by simpa using h)]
    have hl : l.length ≤ 120 := by omega
    obtain ⟨r, h1, h2⟩ := minmax_same 1000 l hl hm (by omega)
    have p1 := partsL_length softB l
    have p2 := partsL_length nv l
    rw [h1, Option.bind_some, h2, Option.bind_some, if_pos rfl, if_pos rfl, if_pos rfl, lines_f l (by omega), Option.bind_some, ref_cuts 1000 l false (by omega) (by omega), cutB_f, Option.bind_some, same_refl _ (by simp; omega), Option.bind_some, if_pos rfl, pieces_f l (by omega), Option.bind_some, ref_cuts 1000 l true (by omega) (by omega), cutB_t, Option.bind_some, same_refl _ (by simp; omega), Option.bind_some, if_pos rfl, hh]
    rfl
end Go.Proofs.Ytkcmehijmgjgfaa.MIntrinsicTells
