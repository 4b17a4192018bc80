/-
  The plain law of IntrinsicSofter: lists and numbers alone. Conditions: at is a uint8, more a uint16.
-/
import Derived.Test.YtkcmehijmgjgfaaMIntrinsicSofterx6
namespace Go.Proofs.Ytkcmehijmgjgfaa.MIntrinsicSofter
open Go.RowKit Go.Proofs.YtkcmehijmgjgfaaW.PrintWords Go.Proofs.YtkcmehijmgjgfaaW.PrintLast Go.Proofs.YtkcmehijmgjgfaaW.PrintMore
set_option linter.unusedVariables false
set_option linter.unusedSimpArgs false
theorem rd25 (l : List S25) (i : Nat) : rd_T25 l (i : Int) = l.getD i z25 := by unfold rd_T25; rw [Int.toNat_natCast]
theorem partsL_P (cut : S25 → Bool) (l : List S25) : Parts cut l 0 (partsL cut l) := by
  by_cases h0 : 0 < l.length
  · exact parts_go cut l l.length 0 0 (by omega) (by omega) h0 (fun j h1 h2 => by omega)
  · obtain rfl : l = [] := List.eq_nil_of_length_eq_zero (by omega)
    exact .nil
abbrev nv : S25 → Bool := fun _ => false
def stepV (c : S25) (y : Int) : Int := if c.f0 = 4 then (if c.f3 = 0 then y else y - y % c.f3 + c.f3) else y + c.f3
theorem stepV_le (c : S25) (y : Int) (h : 0 ≤ c.f3) : y ≤ stepV c y ∧ stepV c y ≤ y + c.f3 := by
  unfold stepV
  split
  · split
    · omega
    · have h1 := Int.emod_nonneg y (show c.f3 ≠ 0 by assumption)
      have h2 := Int.emod_lt_of_pos y (show 0 < c.f3 by omega)
      omega
  · omega
theorem stepV_mono (c : S25) {y z : Int} (h : 0 ≤ c.f3) (hyz : y ≤ z) : stepV c y ≤ stepV c z := by
  unfold stepV
  split
  · split
    · exact hyz
    · have hp : 0 < c.f3 := by omega
      have h1 : y - y % c.f3 = c.f3 * (y / c.f3) := by have := Int.mul_ediv_add_emod y c.f3; omega
      have h2 : z - z % c.f3 = c.f3 * (z / c.f3) := by have := Int.mul_ediv_add_emod z c.f3; omega
      rw [h1, h2]
      have := Int.mul_le_mul_of_nonneg_left (Int.ediv_le_ediv hp hyz) h
      omega
  · omega
theorem sum_fit (l : List Int) (hl : l.length < 100) (hm : ∀ x ∈ l, -4611686018427387904 ≤ x ∧ x ≤ 4611686018427387904) (hs : -4611686018427387904 ≤ l.sum ∧ l.sum ≤ 4611686018427387904) : unit_Sum.f l = some (l.sum, 0) := by
  unfold unit_Sum.f
  rw [if_pos ⟨by omega, fun x hx => by have := hm x hx; omega⟩, fitS_yes hs]
theorem stop_f (y s : Int) (hs : 1 ≤ s) (hs2 : s ≤ 2199023255552) (hy : -281474976710656 ≤ y ∧ y ≤ 281474976710656) : unit_Stop.f y s = some (y - y % s + s, 0) := by
  unfold unit_Stop.f
  rw [if_neg (by omega), if_neg (by omega)]
  have e0 := Int.emod_nonneg y (show s ≠ 0 by omega)
  have e1 := Int.emod_lt_of_pos y (show 0 < s by omega)
  have t0 : Int.tmod y s = y % s ∨ Int.tmod y s = y % s - s := by
    rw [Int.tmod_eq_emod]
    split
    · left; omega
    · right
      rw [Int.natAbs_of_nonneg (by omega)]
  by_cases h : Int.tmod y s < 0
  · rw [if_pos h]
    have ht : Int.tmod y s = y % s - s := by omega
    rw [ht]
    have w : wrap64 (-(wrap64 (y % s - s + s))) = -(y % s) := by unfold wrap64; omega
    rw [w, sum_fit _ (by simp) (by simp; omega) (by simp; omega)]
    simp; omega
  · rw [if_neg h]
    have ht : Int.tmod y s = y % s := by omega
    rw [ht]
    have w : wrap64 (-(y % s)) = -(y % s) := by unfold wrap64; omega
    rw [w, sum_fit _ (by simp) (by simp; omega) (by simp; omega)]
    simp; omega
theorem step_f (c : S25) (y : Int) (h0 : 0 ≤ c.f3) (h1 : c.f3 ≤ 2199023255552) (hy : -281474976710656 ≤ y ∧ y ≤ 281474976710656) :
    tabs_Step.f 1 c.f0 c.f1 c.f2 c.f3 c.f4 c.f5 y = some (stepV c y, 0) := by
  unfold tabs_Step.f stepV
  rw [sum_fit [y] (by simp) (by simp; omega) (by simp; omega)]
  simp only [Option.bind_some, List.sum_cons, List.sum_nil, Int.add_zero, tabs_Step.j0]
  by_cases h4 : c.f0 = 4
  · rw [if_pos h4, if_pos h4, if_neg (by simp; omega)]
    simp only [if_pos h4, if_true]
    by_cases hz : c.f3 = 0
    · rw [if_pos hz, if_pos hz]
    · rw [if_neg hz, if_neg hz, stop_f y c.f3 (by omega) h1 hy]
      rfl
  · rw [if_neg h4, if_neg h4, if_neg (by simp), if_neg h4, sum_fit [y, c.f3] (by simp) (by simp; omega) (by simp; omega)]
    simp
theorem role_f (roles : List Int) (i : Nat) : tabs_role.f roles i = some (roles.getD i 0) := by
  unfold tabs_role.f
  by_cases h : i < roles.length
  · rw [if_pos (by omega), if_pos (by omega)]
    simp [rd]
  · rw [if_neg (by omega), List.getD_eq_getElem?_getD, List.getElem?_eq_none (by omega)]
    rfl
def endV (g : Nat → Bool) : Nat → Int → List S25 → Int
  | _, y, [] => y
  | i, y, c :: l => endV g (i + 1) (if g i then y else stepV c y) l
def goneB (roles : List Int) (i : Nat) : Bool := roles.getD i 0 == 1
theorem endV_ge (g : Nat → Bool) : ∀ (l : List S25) (i : Nat) (y : Int), (∀ c ∈ l, 0 ≤ c.f3) → y ≤ endV g i y l
  | [], _, y, _ => Int.le_refl y
  | c :: l, i, y, h => by
    have h1 := endV_ge g l (i + 1) (if g i then y else stepV c y) (fun d hd => h d (List.mem_cons_of_mem _ hd))
    have h2 := (stepV_le c y (h c List.mem_cons_self)).1
    rw [endV]
    refine Int.le_trans ?_ h1
    split <;> omega
theorem endV_mono (g g' : Nat → Bool) (hg : ∀ i, g' i = true → g i = true) : ∀ (l : List S25) (i : Nat) (y z : Int), (∀ c ∈ l, 0 ≤ c.f3) → y ≤ z → endV g i y l ≤ endV g' i z l
  | [], _, _, _, _, h => h
  | c :: l, i, y, z, h, hyz => by
    rw [endV, endV]
    refine endV_mono g g' hg l (i + 1) _ _ (fun d hd => h d (List.mem_cons_of_mem _ hd)) ?_
    have h2 := (stepV_le c z (h c List.mem_cons_self)).1
    have h3 := stepV_mono c (h c List.mem_cons_self) hyz
    cases e : g' i with
    | true => rw [hg i e]; simpa using hyz
    | false =>
      cases g i with
      | true => simp; omega
      | false => simpa using h3
theorem endV_same (g : Nat → Bool) : ∀ (l : List S25) (i : Nat) (y : Int), (∀ (j : Nat) (c : S25), l[j]? = some c → g (i + j) = true ∨ stepV c y = y) → endV g i y l = y
  | [], _, _, _ => rfl
  | c :: l, i, y, h => by
    rw [endV]
    have h0 := h 0 c rfl
    have e : (if g i then y else stepV c y) = y := by
      rcases h0 with h0 | h0
      · rw [Nat.add_zero] at h0; rw [h0]; rfl
      · rw [h0]; simp
    rw [e]
    exact endV_same g l (i + 1) y (fun j d hd => by have := h (j + 1) d (by simpa using hd); rwa [show i + 1 + j = i + (j + 1) by omega])
theorem pensO_f (roles : List Int) : ∀ (l : List S25) (i : Nat) (y : Int), (∀ c ∈ l, 0 ≤ c.f3 ∧ c.f3 ≤ 2199023255552) → (l.length : Int) ≤ 120 - i → -281474976710656 / 150 * (1 : Int) ≤ y → -1099511627776 * 2 ≤ y → y ≤ 2199023255552 * (i + 1) → 
    ∃ ps, pensO roles i y l = some ps ∧ ps.length = l.length ∧ (∀ p ∈ ps, p.2 = 0) ∧ ((y :: ps.map (·.1)).getLast?) = some (endV (goneB roles) i y l)
  | [], _, y, _, _, _, _, _ => ⟨[], rfl, rfl, by simp, rfl⟩
  | c :: l, i, y, h, hl, _, hy1, hy2 => by
    obtain ⟨h0, h1⟩ := h c List.mem_cons_self
    have hi : (i : Int) ≤ 120 := by simp at hl; omega
    have hs := step_f c y h0 h1 (by omega)
    have hle := stepV_le c y h0
    have hp : penStep roles i c y = some (if goneB roles i then y else stepV c y, 0) := by
      unfold penStep goneB
      rw [role_f, Option.bind_some]
      by_cases e : roles.getD i 0 = 1
      · rw [if_pos e, e]; rfl
      · rw [if_neg e, hs, if_neg (by simpa using e)]
    obtain ⟨ps, e1, e2, e3, e4⟩ := pensO_f roles l (i + 1) (if goneB roles i then y else stepV c y) (fun d hd => h d (List.mem_cons_of_mem _ hd)) (by simp at hl ⊢; omega) (by split <;> omega) (by split <;> omega) (by split <;> (simp; omega))
    refine ⟨(if goneB roles i then y else stepV c y, 0) :: ps, ?_, by simp [e2], ?_, ?_⟩
    · rw [pensO, hp, Option.bind_some, if_pos rfl, e1]; rfl
    · intro p hp'
      rcases List.mem_cons.1 hp' with rfl | hp'
      · rfl
      · exact e3 p hp'
    · rw [endV, List.map_cons, List.getLast?_cons_cons]
      exact e4
theorem end_f (l : List S25) (roles : List Int) (x : Int) (h : ∀ c ∈ l, 0 ≤ c.f3 ∧ c.f3 ≤ 2199023255552) (hl : l.length ≤ 120) (hx1 : -1099511627776 ≤ x) (hx2 : x ≤ 1099511627776) :
    tabs_End.f l roles x = some (endV (goneB roles) 0 x l, 0) := by
  obtain ⟨ps, e1, e2, e3, e4⟩ := pensO_f roles l 0 x h (by omega) (by omega) (by omega) (by omega)
  have hp : tabs_Pens.f l roles x = some (x :: ps.map (·.1), 0) := by
    unfold tabs_Pens.f
    rw [if_pos (by omega), if_neg, sum_fit [x] (by simp) (by simp; omega) (by simp; omega), Option.bind_some, if_neg (by simp), e1]
    · simp only [Option.map_some]
      rw [if_neg]
      simp only [List.any_eq_true, not_exists, not_and]
      intro p hp'
      simp [e3 p hp']
    · simp only [List.any_eq_true, not_exists, not_and]
      intro c hc
      have := (h c hc).1
      unfold badTab
      simp
      intro _; omega
  unfold tabs_End.f
  rw [hp, Option.bind_some]
  simp only [if_true]
  have hlen : ((x :: ps.map (·.1)).length : Int) = ps.length + 1 := by simp
  rw [hlen]
  have w : wrap64 ((ps.length : Int) + 1 - 1) = ps.length := by unfold wrap64; omega
  rw [w, if_pos (by omega), if_pos (by omega)]
  congr 2
  rw [List.getLast?_eq_getElem?] at e4
  simp only [List.length_cons, List.length_map, Nat.add_sub_cancel] at e4
  unfold rd
  rw [Int.toNat_natCast, List.getD_eq_getElem?_getD, e4]
  rfl
theorem goneB_unhang (r : List Int) (i : Nat) (h : goneB r i = true) : goneB (unhang r) i = true := by
  unfold goneB unhang at *
  simp only [beq_iff_eq, List.getD_eq_getElem?_getD, List.getElem?_map] at *
  cases e : r[i]? with
  | none => rw [e] at h; simp at h
  | some x => rw [e] at h; simp at h; simp [unh, h]
theorem goneB_nil (i : Nat) : goneB [] i = false := by simp [goneB]
theorem roles_f (l : List S25) (h : l.length ≤ 150) : trim_Roles.f l = some (rolesS l) := if_pos (by omega)
theorem rolesS_length (l : List S25) : (rolesS l).length = l.length := by unfold rolesS; simp [giveS_length]
theorem fits_f (l : List S25) (x : Int) (h : ∀ c ∈ l, 0 ≤ c.f3 ∧ c.f3 ≤ 2199023255552) (hl : l.length ≤ 120) (hx1 : -1099511627776 ≤ x) (hx2 : x ≤ 1099511627776) :
    trim_Fits.f l x = some (endV (goneB (unhang (rolesS l))) 0 x l, 0) := by
  unfold trim_Fits.f
  rw [roles_f l (by omega), Option.bind_some, end_f l _ x h hl hx1 hx2]
theorem mem_tw {α : Type} (q : α → Bool) : ∀ (L : List α) (x : α), x ∈ L.takeWhile q → q x = true ∧ x ∈ L
  | [], x, h => by simp at h
  | a :: L, x, h => by
    rw [List.takeWhile_cons] at h
    split at h
    · rcases List.mem_cons.1 h with rfl | h
      · exact ⟨by assumption, List.mem_cons_self⟩
      · exact ⟨(mem_tw q L x h).1, List.mem_cons_of_mem _ (mem_tw q L x h).2⟩
    · simp at h
theorem getElem_tw {α : Type} (q : α → Bool) : ∀ (L : List α) (n : Nat) (h : n < L.length), (∀ m (hm : m ≤ n), q (L[m]'(by omega)) = true) → L[n] ∈ L.takeWhile q
  | [], n, h, _ => by simp at h
  | a :: L, 0, h, hq => by
    have := hq 0 (Nat.le_refl _)
    simp only [List.getElem_cons_zero] at this ⊢
    rw [List.takeWhile_cons, this]; simp
  | a :: L, n + 1, h, hq => by
    have h0 := hq 0 (by omega)
    simp only [List.getElem_cons_zero] at h0
    rw [List.takeWhile_cons, h0]
    simp only [List.getElem_cons_succ, if_true]
    exact List.mem_cons_of_mem _ (getElem_tw q L n (by simpa using h) (fun m hm => by have := hq (m + 1) (by omega); simpa using this))
theorem tw_getElem {α : Type} (q : α → Bool) : ∀ (L : List α) (n : Nat) (h : n < L.length), L.Nodup → L[n] ∈ L.takeWhile q → ∀ m (hm : m ≤ n), q (L[m]'(by omega)) = true
  | [], n, h, _, _ => by simp at h
  | a :: L, n, h, hn, hx => by
    intro m hm
    rw [List.takeWhile_cons] at hx
    split at hx
    · rename_i ha
      cases m with
      | zero => simpa using ha
      | succ m =>
        obtain ⟨n, rfl⟩ : ∃ k, n = k + 1 := ⟨n - 1, by omega⟩
        simp only [List.getElem_cons_succ] at hx ⊢
        rw [List.nodup_cons] at hn
        rcases List.mem_cons.1 hx with e | hx
        · exact absurd (e ▸ List.getElem_mem (by simpa using h)) hn.1
        · exact tw_getElem q L n (by simpa using h) hn.2 hx m (by omega)
    · simp at hx
theorem mem_fromUp (p : S25 → Bool) (l : List S25) (i : Nat) : i ∈ fromUp p l ↔ i < l.length ∧ ∀ j, j ≤ i → p (l.getD j z25) = true := by
  unfold fromUp
  constructor
  · intro h
    have hi := (mem_tw _ _ _ h).2
    rw [List.mem_range] at hi
    refine ⟨hi, fun j hj => ?_⟩
    have := tw_getElem (fun i => p (l.getD i z25)) (List.range l.length) i (by simpa using hi) List.nodup_range (by simpa using h) j hj
    simpa using this
  · rintro ⟨hi, h⟩
    have := getElem_tw (fun i => p (l.getD i z25)) (List.range l.length) i (by simpa using hi) (fun m hm => by simpa using h m hm)
    simpa using this
theorem mem_fromDown (p : S25 → Bool) (l : List S25) (i : Nat) : i ∈ fromDown p l ↔ i < l.length ∧ ∀ j, i ≤ j → j < l.length → p (l.getD j z25) = true := by
  unfold fromDown
  constructor
  · intro h
    have hi := (mem_tw _ _ _ h).2
    rw [List.mem_reverse, List.mem_range] at hi
    refine ⟨hi, fun j hj hjl => ?_⟩
    have := tw_getElem (fun i => p (l.getD i z25)) (List.range l.length).reverse (l.length - 1 - i) (by simp; omega) (by rw [List.Nodup, List.pairwise_reverse]; exact List.nodup_range.imp fun h => Ne.symm h) (by
      simp only [List.getElem_reverse, List.length_range, List.getElem_range]
      rw [show l.length - 1 - (l.length - 1 - i) = i by omega]; exact h) (l.length - 1 - j) (by omega)
    simp only [List.getElem_reverse, List.length_range, List.getElem_range] at this
    rwa [show l.length - 1 - (l.length - 1 - j) = j by omega] at this
  · rintro ⟨hi, h⟩
    have := getElem_tw (fun i => p (l.getD i z25)) (List.range l.length).reverse (l.length - 1 - i) (by simp; omega) (fun m hm => by
      simp only [List.getElem_reverse, List.length_range, List.getElem_range]
      exact h _ (by omega) (by omega))
    simp only [List.getElem_reverse, List.length_range, List.getElem_range] at this
    rwa [show l.length - 1 - (l.length - 1 - i) = i by omega] at this
theorem giveS_getD (l : List S25) (kind role : Int) : ∀ (xs : List Nat) (o : List Int) (i : Nat), (∀ x ∈ xs, x < o.length) → (giveS l kind role o xs).getD i 0 = if i ∈ xs ∧ (l.getD i z25).f0 = kind then role else o.getD i 0
  | [], o, i, _ => by simp [giveS]
  | a :: xs, o, i, h => by
    rw [giveS, List.foldl_cons, ← giveS, giveS_getD l kind role xs _ i (fun x hx => by rw [give1_length]; exact h x (List.mem_cons_of_mem _ hx))]
    have ha := h a List.mem_cons_self
    by_cases hm : i ∈ xs ∧ (l.getD i z25).f0 = kind
    · rw [if_pos hm, if_pos ⟨List.mem_cons_of_mem _ hm.1, hm.2⟩]
    · rw [if_neg hm]
      unfold give1
      by_cases hk : (l.getD a z25).f0 = kind
      · rw [if_pos hk]
        by_cases e : i = a
        · subst e
          rw [if_pos ⟨List.mem_cons_self, hk⟩, List.getD_eq_getElem?_getD, List.getElem?_set_self ha]; rfl
        · rw [List.getD_eq_getElem?_getD, List.getElem?_set_ne (Ne.symm e), ← List.getD_eq_getElem?_getD]
          rw [if_neg]
          rintro ⟨h1, h2⟩
          rcases List.mem_cons.1 h1 with h1 | h1
          · exact e h1
          · exact hm ⟨h1, h2⟩
      · rw [if_neg hk, if_neg]
        rintro ⟨h1, h2⟩
        rcases List.mem_cons.1 h1 with rfl | h1
        · exact hk h2
        · exact hm ⟨h1, h2⟩
/-- What becomes of a cell, by its place. -/
def LeadB (p : S25 → Bool) (l : List S25) (i : Nat) : Prop := ∀ j, j ≤ i → p (l.getD j z25) = true
def TailB (p : S25 → Bool) (l : List S25) (i : Nat) : Prop := ∀ j, i ≤ j → j < l.length → p (l.getD j z25) = true
open Classical in
theorem roles_at (l : List S25) (i : Nat) (hi : i < l.length) : (rolesS l).getD i 0 = if (l.getD i z25).f0 = 2 ∧ TailB hangB l i then 2 else if (l.getD i z25).f0 = 1 ∧ (LeadB blankB l i ∨ TailB blankB l i) then 1 else 0 := by
  unfold rolesS
  rw [giveS_getD _ _ _ _ _ _ (fun x hx => by rw [giveS_length, giveS_length, List.length_replicate]; exact ((mem_fromDown _ _ _).1 hx).1),
    giveS_getD _ _ _ _ _ _ (fun x hx => by rw [giveS_length, List.length_replicate]; exact ((mem_fromDown _ _ _).1 hx).1),
    giveS_getD _ _ _ _ _ _ (fun x hx => by rw [List.length_replicate]; exact ((mem_fromUp _ _ _).1 hx).1)]
  simp only [mem_fromDown, mem_fromUp, hi, true_and]
  have e0 : (List.replicate l.length (0 : Int)).getD i 0 = 0 := by rw [List.getD_eq_getElem?_getD, List.getElem?_replicate, if_pos hi]; rfl
  rw [e0]
  unfold LeadB TailB
  by_cases h2 : (l.getD i z25).f0 = 2
  · have h1 : ¬ (l.getD i z25).f0 = 1 := by omega
    simp only [h2, and_true, true_and]
    simp
  · by_cases h1 : (l.getD i z25).f0 = 1
    · simp only [h1, and_true, true_and]
      by_cases a : ∀ (j : Nat), i ≤ j → j < l.length → blankB (l.getD j z25) = true
      · rw [if_neg (by omega), if_pos a, if_neg (by omega), if_pos (.inr a)]
      · by_cases b : ∀ (j : Nat), j ≤ i → blankB (l.getD j z25) = true
        · rw [if_neg (by omega), if_neg a, if_pos b, if_neg (by omega), if_pos (.inl b)]
        · rw [if_neg (by omega), if_neg a, if_neg b, if_neg (by omega), if_neg (fun h => h.elim b a)]
    · rw [if_neg (fun h => h2 h.2), if_neg (fun h => h1 h.2), if_neg (fun h => h1 h.2), if_neg (fun h => h2 h.1), if_neg (fun h => h1 h.1)]
/-- Is a cell gone, if what must fit is asked? -/
def Gone (l : List S25) (i : Nat) : Prop := ((l.getD i z25).f0 = 2 ∧ TailB hangB l i) ∨ ((l.getD i z25).f0 = 1 ∧ (LeadB blankB l i ∨ TailB blankB l i))
theorem gone_iff (l : List S25) (i : Nat) (hi : i < l.length) : goneB (unhang (rolesS l)) i = true ↔ Gone l i := by
  unfold goneB unhang
  have hlen : (rolesS l).length = l.length := by unfold rolesS; simp [giveS_length]
  rw [List.getD_eq_getElem?_getD, List.getElem?_map, List.getElem?_eq_getElem (by omega)]
  have h := roles_at l i hi
  rw [List.getD_eq_getElem?_getD, List.getElem?_eq_getElem (by omega)] at h
  simp only [Option.getD_some, Option.map_some, beq_iff_eq] at h ⊢
  rw [h]
  unfold Gone
  split
  · rename_i c; exact ⟨fun _ => .inl c, fun _ => rfl⟩
  · split
    · rename_i c d; exact ⟨fun _ => .inr d, fun _ => rfl⟩
    · rename_i c d
      constructor
      · intro e; simp [unh] at e
      · rintro (e | e)
        · exact absurd e c
        · exact absurd e d
/-- What must fit of a line, if none goes back. -/
def fitV (l : List S25) : Int := endV (goneB (unhang (rolesS l))) 0 0 l
def Adv0 (l : List S25) : Prop := ∀ c ∈ l, 0 ≤ c.f3
structure CLe (c d : S25) : Prop where
  kind : c.f0 = d.f0
  le : c.f3 ≤ d.f3
  tab : c.f0 = 4 → c.f3 = d.f3
theorem CLe.refl (c : S25) : CLe c c := ⟨rfl, Int.le_refl _, fun _ => rfl⟩
theorem stepV_CLe {c d : S25} {y z : Int} (h : CLe c d) (h0 : 0 ≤ c.f3) (hyz : y ≤ z) : stepV c y ≤ stepV d z := by
  have h1 := stepV_mono c h0 hyz
  refine Int.le_trans h1 ?_
  unfold stepV
  rw [← h.kind]
  by_cases e : c.f0 = 4
  · rw [if_pos e, if_pos e, h.tab e]; exact Int.le_refl _
  · rw [if_neg e, if_neg e]; have := h.le; omega
theorem endV_CLe (g g' : Nat → Bool) : ∀ (l m : List S25) (i k : Nat) (y z : Int), l.length = m.length → Adv0 l → (∀ j, j < l.length → CLe (l.getD j z25) (m.getD j z25)) → y ≤ z → (∀ j, j < l.length → g' (k + j) = true → g (i + j) = true) → endV g i y l ≤ endV g' k z m
  | [], [], _, _, _, _, _, _, _, h, _ => h
  | [], _ :: _, _, _, _, _, h, _, _, _, _ => by simp at h
  | _ :: _, [], _, _, _, _, h, _, _, _, _ => by simp at h
  | c :: l, d :: m, i, k, y, z, hl, h, hc, hyz, hg => by
    rw [endV, endV]
    have h0 := hc 0 (by simp)
    simp only [List.getD_cons_zero] at h0
    have hn := h c List.mem_cons_self
    have hd : 0 ≤ d.f3 := by have := h0.le; omega
    refine endV_CLe g g' l m (i + 1) (k + 1) _ _ (by simpa using hl) (fun d hd => h d (List.mem_cons_of_mem _ hd)) (fun j hj => by have := hc (j + 1) (by simpa using hj); simpa using this) ?_ (fun j hj => by have := hg (j + 1) (by simpa using hj); rwa [show k + 1 + j = k + (j + 1) by omega, show i + 1 + j = i + (j + 1) by omega])
    have g0 := hg 0 (by simp)
    simp only [Nat.add_zero] at g0
    have h3 := stepV_CLe h0 hn hyz
    have h4 := (stepV_le d z hd).1
    cases e : g' k with
    | true => rw [g0 e]; simpa using hyz
    | false =>
      cases g i with
      | true => simp; omega
      | false => simpa using h3
theorem endV_app (g : Nat → Bool) : ∀ (l m : List S25) (i : Nat) (y : Int), endV g i y (l ++ m) = endV g (i + l.length) (endV g i y l) m
  | [], m, i, y => by simp [endV]
  | c :: l, m, i, y => by rw [List.cons_append, endV, endV, endV_app g l m, List.length_cons, show i + 1 + l.length = i + (l.length + 1) by omega]
theorem getD_left (x y : List S25) (i : Nat) (h : i < x.length) : (x ++ y).getD i z25 = x.getD i z25 := by
  rw [List.getD_eq_getElem?_getD, List.getElem?_append_left h, ← List.getD_eq_getElem?_getD]
theorem getD_right (x y : List S25) (i : Nat) : (x ++ y).getD (x.length + i) z25 = y.getD i z25 := by
  rw [List.getD_eq_getElem?_getD, List.getElem?_append_right (by omega), Nat.add_sub_cancel_left, ← List.getD_eq_getElem?_getD]
theorem gone_left (x y : List S25) (i : Nat) (hi : i < x.length) (h : Gone (x ++ y) i) : Gone x i := by
  unfold Gone at h ⊢
  rw [getD_left x y i hi] at h
  have ht : ∀ p, TailB p (x ++ y) i → TailB p x i := fun p h j h1 h2 => by
    have := h j h1 (by simp; omega)
    rwa [getD_left x y j h2] at this
  have hl : ∀ p, LeadB p (x ++ y) i → LeadB p x i := fun p h j h1 => by
    have := h j h1
    rwa [getD_left x y j (by omega)] at this
  exact h.imp (fun h => ⟨h.1, ht _ h.2⟩) (fun h => ⟨h.1, h.2.imp (hl _) (ht _)⟩)
theorem gone_right (x y : List S25) (i : Nat) (h : Gone (x ++ y) (x.length + i)) : Gone y i := by
  unfold Gone at h ⊢
  rw [getD_right x y i] at h
  have ht : ∀ p, TailB p (x ++ y) (x.length + i) → TailB p y i := fun p h j h1 h2 => by
    have := h (x.length + j) (by omega) (by simp; omega)
    rwa [getD_right x y j] at this
  have hl : ∀ p, LeadB p (x ++ y) (x.length + i) → LeadB p y i := fun p h j h1 => by
    have := h (x.length + j) (by omega)
    rwa [getD_right x y j] at this
  exact h.imp (fun h => ⟨h.1, ht _ h.2⟩) (fun h => ⟨h.1, h.2.imp (hl _) (ht _)⟩)
theorem fitV_ge0 (x : List S25) (h : Adv0 x) : 0 ≤ fitV x := endV_ge _ x 0 0 h
theorem fitV_pre (x y : List S25) (h : Adv0 (x ++ y)) : fitV x ≤ fitV (x ++ y) := by
  unfold fitV
  have hx : Adv0 x := fun c hc => h c (List.mem_append_left _ hc)
  rw [endV_app]
  refine Int.le_trans ?_ (endV_ge _ y _ _ (fun c hc => h c (List.mem_append_right _ hc)))
  refine endV_CLe _ _ x x 0 0 0 0 rfl hx (fun j _ => CLe.refl _) (Int.le_refl _) (fun j hj hg => ?_)
  rw [Nat.zero_add] at hg ⊢
  rw [gone_iff _ _ (by simp; omega)] at hg
  exact (gone_iff _ _ hj).2 (gone_left x y j hj hg)
theorem fitV_suf (x y : List S25) (h : Adv0 (x ++ y)) : fitV y ≤ fitV (x ++ y) := by
  unfold fitV
  rw [endV_app]
  refine endV_CLe _ _ y y _ _ _ _ rfl (fun c hc => h c (List.mem_append_right _ hc)) (fun j _ => CLe.refl _) (endV_ge _ x _ _ (fun c hc => h c (List.mem_append_left _ hc))) (fun j hj hg => ?_)
  rw [Nat.zero_add] at hg ⊢
  rw [gone_iff _ _ (by simp; omega)] at hg
  exact (gone_iff _ _ hj).2 (gone_right x y j hg)
theorem gone_congr (x y : List S25) (hl : x.length = y.length) (h : ∀ j, j < x.length → (x.getD j z25).f0 = (y.getD j z25).f0) (i : Nat) (hi : i < x.length) : Gone y i → Gone x i := by
  have hb : ∀ j, j < x.length → blankB (x.getD j z25) = blankB (y.getD j z25) := fun j hj => by unfold blankB edgeB; rw [h j hj]
  have hh : ∀ j, j < x.length → hangB (x.getD j z25) = hangB (y.getD j z25) := fun j hj => by unfold hangB; rw [hb j hj, h j hj]
  unfold Gone
  rw [h i hi]
  have ht : ∀ p, (∀ j, j < x.length → p (x.getD j z25) = p (y.getD j z25)) → TailB p y i → TailB p x i := fun p hp h j h1 h2 => by
    rw [hp j h2]; exact h j h1 (by omega)
  have hld : ∀ p, (∀ j, j < x.length → p (x.getD j z25) = p (y.getD j z25)) → LeadB p y i → LeadB p x i := fun p hp h j h1 => by
    rw [hp j (by omega)]; exact h j h1
  exact Or.imp (fun h => ⟨h.1, ht _ hh h.2⟩) (fun h => ⟨h.1, h.2.imp (hld _ hb) (ht _ hb)⟩)
theorem fitV_CLe (x y : List S25) (hl : x.length = y.length) (h0 : Adv0 x) (h : ∀ j, j < x.length → CLe (x.getD j z25) (y.getD j z25)) : fitV x ≤ fitV y := by
  unfold fitV
  refine endV_CLe _ _ x y 0 0 0 0 hl h0 h (Int.le_refl _) (fun j hj hg => ?_)
  rw [Nat.zero_add] at hg ⊢
  rw [gone_iff _ _ (by omega)] at hg
  exact (gone_iff _ _ hj).2 (gone_congr x y hl (fun j hj => (h j hj).kind) j hj hg)
/-- A part of a row. -/
def sl (l : List S25) (p : Nat × Nat) : List S25 := (l.take p.2).drop p.1
theorem sl_len (l : List S25) (p : Nat × Nat) (h : p.2 ≤ l.length) : (sl l p).length = p.2 - p.1 := by unfold sl; simp; omega
theorem sl_getD (l : List S25) (p : Nat × Nat) (j : Nat) (h : p.1 + j < p.2) : (sl l p).getD j z25 = l.getD (p.1 + j) z25 := by
  unfold sl
  rw [List.getD_eq_getElem?_getD, List.getElem?_drop, List.getElem?_take, if_pos h, ← List.getD_eq_getElem?_getD]
theorem sl_adv (l : List S25) (p : Nat × Nat) (h : Adv0 l) : Adv0 (sl l p) := fun c hc => h c (List.mem_of_mem_take (List.mem_of_mem_drop hc))
theorem fitV_sub (l : List S25) (h : Adv0 l) (p q : Nat × Nat) (h1 : q.1 ≤ p.1) (h2 : p.2 ≤ q.2) (h3 : p.1 ≤ p.2) (h4 : q.2 ≤ l.length) : fitV (sl l p) ≤ fitV (sl l q) := by
  have e : sl l q = sl l (q.1, p.1) ++ (sl l p ++ sl l (p.2, q.2)) := by
    obtain ⟨a, b⟩ := p
    obtain ⟨c, d⟩ := q
    simp only at h1 h2 h3 h4
    unfold sl
    simp only
    rw [List.drop_take, List.drop_take, List.drop_take, List.drop_take]
    have e1 : l.drop a = (l.drop c).drop (a - c) := by rw [List.drop_drop]; congr 1; omega
    have e2 : l.drop b = (l.drop c).drop (b - c) := by rw [List.drop_drop]; congr 1; omega
    rw [e1, e2]
    generalize l.drop c = m
    have e3 : d - c = (a - c) + ((b - a) + (d - b)) := by omega
    rw [e3, List.take_add, List.take_add, List.drop_drop, show a - c + (b - a) = b - c by omega]
  have hA := sl_adv l q h
  rw [e] at hA ⊢
  exact Int.le_trans (fitV_pre _ _ (fun c hc => hA c (List.mem_append_right _ hc))) (fitV_suf _ _ hA)
def mx (y : Int) (l : List S25) (ps : List (Nat × Nat)) : Int := (greatO y (ps.map fun p => (fitV (sl l p), 0))).1
theorem great0 : ∀ (l : List S25) (ps : List (Nat × Nat)) (y : Int), (greatO y (ps.map fun p => (fitV (sl l p), 0))).2 = 0
  | _, [], _ => rfl
  | l, p :: ps, y => by rw [List.map_cons, greatO, if_pos rfl]; exact great0 l ps _
theorem mx_ge : ∀ (l : List S25) (ps : List (Nat × Nat)) (y : Int), y ≤ mx y l ps ∧ ∀ p ∈ ps, fitV (sl l p) ≤ mx y l ps
  | _, [], y => ⟨Int.le_refl y, fun p hp => by cases hp⟩
  | l, p :: ps, y => by
    have ih := mx_ge l ps (max y (fitV (sl l p)))
    have e : mx y l (p :: ps) = mx (max y (fitV (sl l p))) l ps := by unfold mx; rw [List.map_cons, greatO, if_pos rfl]
    rw [e]
    refine ⟨by omega, fun q hq => ?_⟩
    rcases List.mem_cons.1 hq with rfl | hq
    · omega
    · exact ih.2 q hq
theorem mx_le : ∀ (l : List S25) (ps : List (Nat × Nat)) (y B : Int), y ≤ B → (∀ p ∈ ps, fitV (sl l p) ≤ B) → mx y l ps ≤ B
  | _, [], y, B, h, _ => h
  | l, p :: ps, y, B, h, hp => by
    have e : mx y l (p :: ps) = mx (max y (fitV (sl l p))) l ps := by unfold mx; rw [List.map_cons, greatO, if_pos rfl]
    rw [e]
    exact mx_le l ps _ B (by have := hp p List.mem_cons_self; omega) (fun q hq => hp q (List.mem_cons_of_mem _ hq))
theorem parts_has {cut : S25 → Bool} {l : List S25} {s : Nat} {ps : List (Nat × Nat)} (h : Parts cut l s ps) (a b : Nat) (hs : s ≤ a) (hab : a < b) (hb : b ≤ l.length) (hin : ∀ j, a ≤ j → j + 1 < b → (l.getD j z25).f0 ≠ 5 ∧ cut (l.getD (j + 1) z25) = false) : ∃ q ∈ ps, q.1 ≤ a ∧ b ≤ q.2 ∧ q.2 ≤ l.length := by
  induction h with
  | nil => omega
  | cons s e ps h1 h2 h3 h4 h5 ih =>
    by_cases hae : a < e
    · refine ⟨(s, e), List.mem_cons_self, hs, ?_, h2⟩
      apply Classical.byContradiction
      intro hc
      have hc : e < b := by simpa using hc
      obtain ⟨i1, i2⟩ := hin (e - 1) (by omega) (by omega)
      rcases h4 (e - 1) (by omega) with h | h | h
      · omega
      · exact i1 h
      · rw [i2] at h; cases h
    · obtain ⟨q, hq, r⟩ := ih (by omega)
      exact ⟨q, List.mem_cons_of_mem _ hq, r⟩
theorem fitsO_V (l : List S25) (h : ∀ c ∈ l, 0 ≤ c.f3 ∧ c.f3 ≤ 2199023255552) (hl : l.length ≤ 120) : ∀ ps : List (Nat × Nat), fitsO l ps = some (ps.map fun p => (fitV (sl l p), 0))
  | [] => rfl
  | p :: ps => by
    rw [fitsO, fits_f _ 0 (fun c hc => h c (List.mem_of_mem_take (List.mem_of_mem_drop hc))) (by rw [List.length_drop, List.length_take]; omega) (by omega) (by omega), Option.bind_some, fitsO_V l h hl ps]
    rfl
theorem minmax_V (l : List S25) (h : ∀ c ∈ l, 0 ≤ c.f3 ∧ c.f3 ≤ 2199023255552) (hl : l.length ≤ 120) :
    intrinsic_MinMax.f l = some (mx 0 l (partsL softB l), mx (mx 0 l (partsL softB l)) l (partsL nv l), 0) := by
  unfold intrinsic_MinMax.f
  rw [if_pos (by omega), fitsO_V l h hl, Option.bind_some, if_pos (great0 _ _ _), fitsO_V l h hl, Option.bind_some, if_pos (great0 _ _ _)]
  rfl
/-- Two rows of the same kinds: softer ends, cells not narrower. -/
structure Rel (l m : List S25) : Prop where
  len : l.length = m.length
  cle : ∀ j, j < l.length → CLe (l.getD j z25) (m.getD j z25)
  soft : ∀ j, j < l.length → softB (l.getD j z25) = true → softB (m.getD j z25) = true
theorem Rel.sl_le {l m : List S25} (h : Rel l m) (h0 : Adv0 l) (p : Nat × Nat) (hp : p.2 ≤ l.length) : fitV (sl l p) ≤ fitV (sl m p) := by
  have := h.len
  refine fitV_CLe _ _ (by rw [sl_len l p hp, sl_len m p (by omega)]) (sl_adv l p h0) (fun j hj => ?_)
  rw [sl_len l p hp] at hj
  rw [sl_getD l p j (by omega), sl_getD m p j (by omega)]
  exact h.cle _ (by omega)
/-- A part of the softer row lies in a part of the other. -/
theorem Rel.piece {l m : List S25} (h : Rel l m) (p : Nat × Nat) (hp : p ∈ partsL softB m) : ∃ q ∈ partsL softB l, q.1 ≤ p.1 ∧ p.2 ≤ q.2 ∧ q.2 ≤ l.length := by
  have hl := h.len
  obtain ⟨h1, h2, h3, _⟩ := parts_all (partsL_P softB m) p hp
  refine parts_has (partsL_P softB l) p.1 p.2 (by omega) h1 (by omega) (fun j h4 h5 => ?_)
  obtain ⟨h6, h7⟩ := h3 j h4 h5
  refine ⟨by rw [(h.cle j (by omega)).kind]; exact h6, ?_⟩
  cases e : softB (l.getD (j + 1) z25) with
  | false => rfl
  | true => rw [h.soft _ (by omega) e] at h7; cases h7
theorem piece_line {l : List S25} (p : Nat × Nat) (hp : p ∈ partsL softB l) : ∃ q ∈ partsL nv l, q.1 ≤ p.1 ∧ p.2 ≤ q.2 ∧ q.2 ≤ l.length := by
  obtain ⟨h1, h2, h3, _⟩ := parts_all (partsL_P softB l) p hp
  exact parts_has (partsL_P nv l) p.1 p.2 (by omega) h1 (by omega) (fun j h4 h5 => ⟨(h3 j h4 h5).1, rfl⟩)
theorem partsGo_same (cut cut' : S25 → Bool) : ∀ (l m : List S25) (s i : Nat), l.length = m.length → (∀ j, j < l.length → (l.getD j z25).f0 = (m.getD j z25).f0 ∧ cut (l.getD j z25) = cut' (m.getD j z25)) → partsGo cut s i l = partsGo cut' s i m
  | [], [], s, i, _, _ => rfl
  | [], _ :: _, _, _, h, _ => by simp at h
  | _ :: _, [], _, _, h, _ => by simp at h
  | [c], [d], s, i, _, _ => rfl
  | [_], _ :: _ :: _, _, _, h, _ => by simp at h
  | _ :: _ :: _, [_], _, _, h, _ => by simp at h
  | c :: d :: l, c' :: d' :: m, s, i, hl, h => by
    have h0 := (h 0 (by simp)).1
    have h1 := (h 1 (by simp)).2
    simp only [List.getD_cons_zero, List.getD_cons_succ] at h0 h1
    have hr : ∀ j, j < (d :: l).length → ((d :: l).getD j z25).f0 = ((d' :: m).getD j z25).f0 ∧ cut ((d :: l).getD j z25) = cut' ((d' :: m).getD j z25) := fun j hj => by
      have := h (j + 1) (by simpa using hj)
      simpa using this
    rw [partsGo, partsGo, h0, h1, partsGo_same cut cut' (d :: l) (d' :: m) _ _ (by simpa using hl) hr, partsGo_same cut cut' (d :: l) (d' :: m) s _ (by simpa using hl) hr]
theorem Rel.lines {l m : List S25} (h : Rel l m) : partsL nv m = partsL nv l := partsGo_same nv nv m l 0 0 h.len.symm (fun j hj => ⟨(h.cle j (by have := h.len; omega)).kind.symm, rfl⟩)
theorem lines_in {l : List S25} {p : Nat × Nat} (hp : p ∈ partsL nv l) : p.2 ≤ l.length := (parts_all (partsL_P nv l) p hp).2.1
theorem pieces_in {l : List S25} {p : Nat × Nat} (hp : p ∈ partsL softB l) : p.2 ≤ l.length := (parts_all (partsL_P softB l) p hp).2.1
theorem least_most (l : List S25) (h0 : Adv0 l) (x : Int) (hx : ∀ p ∈ partsL nv l, fitV (sl l p) ≤ x) (h : 0 ≤ x) : mx 0 l (partsL softB l) ≤ x := by
  refine mx_le _ _ _ _ h (fun p hp => ?_)
  obtain ⟨q, hq, h1, h2, h3⟩ := piece_line p hp
  have := parts_all (partsL_P softB l) p hp
  exact Int.le_trans (fitV_sub l h0 p q h1 h2 (by omega) h3) (hx q hq)
/-- Softer, of cells as wide: no greater least, the same most. -/
theorem soft_le (l m : List S25) (h : Rel l m) (hs : Rel m m → ∀ j, j < l.length → CLe (m.getD j z25) (l.getD j z25)) (h0 : Adv0 l) :
    mx 0 m (partsL softB m) ≤ mx 0 l (partsL softB l) ∧ mx (mx 0 m (partsL softB m)) m (partsL nv m) = mx (mx 0 l (partsL softB l)) l (partsL nv l) := by
  have hlen := h.len
  have hs := hs ⟨rfl, fun _ _ => CLe.refl _, fun _ _ h => h⟩
  have h0m : Adv0 m := fun c hc => by
    obtain ⟨j, hj, rfl⟩ := List.getElem_of_mem hc
    have h1 := (h.cle j (by omega)).le
    have h2 := h0 l[j] (List.getElem_mem (by omega))
    rw [List.getD_eq_getElem?_getD, List.getElem?_eq_getElem (by omega), List.getD_eq_getElem?_getD, List.getElem?_eq_getElem hj] at h1
    simp only [Option.getD_some] at h1
    omega
  have hge : ∀ p : Nat × Nat, p.2 ≤ l.length → fitV (sl m p) ≤ fitV (sl l p) := fun p hp => by
    refine fitV_CLe _ _ (by rw [sl_len l p hp, sl_len m p (by omega)]) (sl_adv m p h0m) (fun j hj => ?_)
    rw [sl_len m p (by omega)] at hj
    rw [sl_getD l p j (by omega), sl_getD m p j (by omega)]
    exact hs _ (by omega)
  have a1 : mx 0 m (partsL softB m) ≤ mx 0 l (partsL softB l) := by
    refine mx_le _ _ _ _ (mx_ge _ _ _).1 (fun p hp => ?_)
    obtain ⟨q, hq, h1, h2, h3⟩ := h.piece p hp
    have hp' := parts_all (partsL_P softB m) p hp
    exact Int.le_trans (hge p (by omega)) (Int.le_trans (fitV_sub l h0 p q h1 h2 (by omega) h3) ((mx_ge l (partsL softB l) 0).2 q hq))
  refine ⟨a1, ?_⟩
  rw [h.lines]
  apply Int.le_antisymm
  · refine mx_le _ _ _ _ (Int.le_trans a1 (mx_ge _ _ _).1) (fun p hp => Int.le_trans (hge p (lines_in hp)) ((mx_ge _ _ _).2 p hp))
  · refine mx_le _ _ _ _ ?_ (fun p hp => Int.le_trans (h.sl_le h0 p (lines_in hp)) ((mx_ge _ _ _).2 p hp))
    refine least_most l h0 _ (fun p hp => Int.le_trans (h.sl_le h0 p (lines_in hp)) ((mx_ge _ _ _).2 p hp)) ?_
    exact Int.le_trans (mx_ge m (partsL softB m) 0).1 (mx_ge _ _ _).1
/-- Wider: neither is less. -/
theorem wide_ge (l m : List S25) (h : Rel l m) (hs : ∀ j, j < l.length → softB (l.getD j z25) = softB (m.getD j z25)) (h0 : Adv0 l) :
    mx 0 l (partsL softB l) ≤ mx 0 m (partsL softB m) ∧ mx (mx 0 l (partsL softB l)) l (partsL nv l) ≤ mx (mx 0 m (partsL softB m)) m (partsL nv m) := by
  have hlen := h.len
  have e : partsL softB m = partsL softB l := partsGo_same softB softB m l 0 0 hlen.symm (fun j hj => ⟨(h.cle j (by omega)).kind.symm, (hs j (by omega)).symm⟩)
  rw [e, h.lines]
  have a1 : mx 0 l (partsL softB l) ≤ mx 0 m (partsL softB l) :=
    mx_le _ _ _ _ (mx_ge _ _ _).1 (fun p hp => Int.le_trans (h.sl_le h0 p (pieces_in hp)) ((mx_ge _ _ _).2 p hp))
  exact ⟨a1, mx_le _ _ _ _ (Int.le_trans a1 (mx_ge _ _ _).1) (fun p hp => Int.le_trans (h.sl_le h0 p (lines_in hp)) ((mx_ge _ _ _).2 p hp))⟩
theorem wr1 (i : Nat) (h : i < 4611686018427387904) : wrap64 ((i : Int) + 1) = ((i + 1 : Nat) : Int) := by unfold wrap64; omega
theorem getD_set (l : List S25) (k i : Nat) (c : S25) (hk : k < l.length) : (l.set k c).getD i z25 = if i = k then c else l.getD i z25 := by
  by_cases e : i = k
  · subst e; rw [if_pos rfl, List.getD_eq_getElem?_getD, List.getElem?_set_self hk]; rfl
  · rw [if_neg e, List.getD_eq_getElem?_getD, List.getElem?_set_ne (Ne.symm e), ← List.getD_eq_getElem?_getD]
theorem softer_j2 (n : Nat) (l m x : List S25) (hl : l.length ≤ 120) (h : ∀ c ∈ l, 0 ≤ c.f3 ∧ c.f3 ≤ 1099511627776) (h1 : Rel l m) (h2 : ∀ j, j < l.length → CLe (m.getD j z25) (l.getD j z25))
    (h3 : Rel l x) (h4 : ∀ j, j < l.length → softB (l.getD j z25) = softB (x.getD j z25)) (hm : ∀ c ∈ m, 0 ≤ c.f3 ∧ c.f3 ≤ 2199023255552) (hx : ∀ c ∈ x, 0 ≤ c.f3 ∧ c.f3 ≤ 2199023255552) :
    stickfullaw21_IntrinsicSofter.j2 (n + 1) l m x = some true := by
  have e1 := h1.len
  have e2 := h3.len
  have h0 : Adv0 l := fun c hc => (h c hc).1
  rw [stickfullaw21_IntrinsicSofter.j2, minmax_V l (fun c hc => by have := h c hc; omega) hl, minmax_V m hm (by omega), minmax_V x hx (by omega)]
  obtain ⟨a1, a2⟩ := soft_le l m h1 (fun _ => h2) h0
  obtain ⟨b1, b2⟩ := wide_ge l x h3 h4 h0
  simp only [Option.bind_some, if_true]
  rw [if_pos a1, if_pos a2, if_pos b1, if_pos b2]
  rfl
theorem softer_l0 (l : List S25) (a b : Nat) (ha : a ≤ 255) (hb : b ≤ 65535) (hl : l.length ≤ 120) (h0 : 0 < l.length) : ∀ (d k i : Nat), i ≤ l.length → l.length - i = d → d + 1 < k →
    (∀ j, j < i → 0 ≤ (l.getD j z25).f3 ∧ (l.getD j z25).f3 ≤ 1099511627776) → stickfullaw21_IntrinsicSofter.l0 k l (a : Int) (b : Int) (i : Int) = some true
  | 0, k, i, hi, hd, hk, hall => by
    obtain ⟨k, rfl⟩ : ∃ m, k = m + 1 + 1 := ⟨k - 2, by omega⟩
    have hA : ∀ c ∈ l, 0 ≤ c.f3 ∧ c.f3 ≤ 1099511627776 := fun c hc => by
      obtain ⟨j, hj, rfl⟩ := List.getElem_of_mem hc
      have := hall j (by omega)
      rwa [List.getD_eq_getElem?_getD, List.getElem?_eq_getElem hj] at this
    have ew : wrap64 (a : Int) = (a : Int) := by unfold wrap64; omega
    have ewb : wrap64 (b : Int) = (b : Int) := by unfold wrap64; omega
    obtain ⟨q, hq⟩ : ∃ q : Nat, q = a % l.length := ⟨_, rfl⟩
    have hql : q < l.length := by rw [hq]; exact Nat.mod_lt _ h0
    have eq : Int.tmod (a : Int) (l.length : Int) = (q : Int) := by rw [Int.tmod_eq_emod_of_nonneg (by omega), hq]; omega
    have en : ((q : Int)).toNat = q := Int.toNat_natCast q
    obtain ⟨c, hc⟩ : ∃ c, c = l.getD q z25 := ⟨_, rfl⟩
    have hcq := hall q (by omega)
    rw [← hc] at hcq
    have hmem : ∀ (c' : S25) (B : Int), 1099511627776 ≤ B → 0 ≤ c'.f3 ∧ c'.f3 ≤ B → ∀ d ∈ l.set q c', 0 ≤ d.f3 ∧ d.f3 ≤ B := fun c' B hB hc' d hd => by
      rcases List.mem_or_eq_of_mem_set hd with hd | rfl
      · have := hA d hd; omega
      · exact hc'
    have hmemc : ∀ (c' : S25), 0 ≤ c'.f3 ∧ c'.f3 ≤ 2199023255552 → ∀ d ∈ l.set q c', 0 ≤ d.f3 ∧ d.f3 ≤ 2199023255552 := fun c' hc' => hmem c' _ (by omega) hc'
    have rel : ∀ c' : S25, CLe c c' → (softB c = true → softB c' = true) → Rel l (l.set q c') := fun c' g1 g2 => by
      refine ⟨by simp, fun j hj => ?_, fun j hj hs => ?_⟩
      · rw [getD_set l q j c' hql]
        by_cases e : j = q
        · subst e; rw [if_pos rfl, ← hc]; exact g1
        · rw [if_neg e]; exact CLe.refl _
      · rw [getD_set l q j c' hql]
        by_cases e : j = q
        · subst e; rw [if_pos rfl]; rw [← hc] at hs; exact g2 hs
        · rw [if_neg e]; exact hs
    have r1 := rel ⟨c.f0, c.f1, c.f2, c.f3, true, c.f5⟩ ⟨rfl, Int.le_refl _, fun _ => rfl⟩ (fun _ => by simp [softB])
    have r2 : ∀ j, j < l.length → CLe ((l.set q ⟨c.f0, c.f1, c.f2, c.f3, true, c.f5⟩).getD j z25) (l.getD j z25) := fun j hj => by
      rw [getD_set l q j _ hql]
      by_cases e : j = q
      · subst e; rw [if_pos rfl, ← hc]; exact ⟨rfl, Int.le_refl _, fun _ => rfl⟩
      · rw [if_neg e]; exact CLe.refl _
    have r5 := hmemc ⟨c.f0, c.f1, c.f2, c.f3, true, c.f5⟩ (by simp only []; omega)
    rw [stickfullaw21_IntrinsicSofter.l0, if_neg (by omega), if_neg (by omega), ew, ewb, eq, en, Option.bind_some, if_pos (by rw [List.length_nil]; omega), Option.bind_some, List.nil_append, if_pos (by omega), if_pos (by omega), Option.bind_some, Option.bind_some, if_pos (by rw [List.length_nil]; omega), Option.bind_some, List.nil_append, if_pos (by omega), rd25, ← hc]
    by_cases h4 : c.f0 = 4
    · rw [if_pos h4]
      exact softer_j2 k l _ l hl hA r1 r2 ⟨rfl, fun _ _ => CLe.refl _, fun _ _ h => h⟩ (fun _ _ => rfl) r5 (fun d hd => by have := hA d hd; omega)
    · rw [if_neg h4]
      have w : wrap64 (c.f3 + (b : Int)) = c.f3 + b := by unfold wrap64; omega
      rw [w]
      refine softer_j2 k l _ _ hl hA r1 r2 (rel ⟨c.f0, c.f1, c.f2, c.f3 + b, c.f4, c.f5⟩ ⟨rfl, by simp only []; omega, fun h => absurd h h4⟩ (fun h => h)) (fun j hj => ?_) r5 (hmemc _ (by simp only []; omega))
      rw [getD_set l q j _ hql]
      by_cases e : j = q
      · subst e; rw [if_pos rfl, ← hc]; rfl
      · rw [if_neg e]
  | d + 1, k, i, hi, hd, hk, hall => by
    obtain ⟨k, rfl⟩ : ∃ m, k = m + 1 := ⟨k - 1, by omega⟩
    rw [stickfullaw21_IntrinsicSofter.l0, if_pos (by omega), if_pos (by omega), rd25, wr1 i (by omega)]
    by_cases h1 : (l.getD i z25).f3 < 0
    · rw [if_pos h1]; rfl
    · rw [if_neg h1]
      by_cases h2 : (l.getD i z25).f3 > 1099511627776
      · rw [if_pos h2]; rfl
      · rw [if_neg h2]
        refine softer_l0 l a b ha hb hl h0 d k (i + 1) (by omega) (by omega) (by omega) (fun j hj => ?_)
        by_cases e : j = i
        · subst e; omega
        · exact hall j (by omega)
/-- The plain law. -/
theorem pureSofter (l : List S25) (a b : Int) (ha : 0 ≤ a ∧ a ≤ 255) (hb : 0 ≤ b ∧ b ≤ 65535) : stickfullaw21_IntrinsicSofter.f 500 l a b = some true := by
  obtain ⟨a, rfl⟩ : ∃ n : Nat, a = n := ⟨a.toNat, by omega⟩
  obtain ⟨b, rfl⟩ : ∃ n : Nat, b = n := ⟨b.toNat, by omega⟩
  have hj : ∀ t, (t = false → 0 < l.length ∧ l.length ≤ 120) → stickfullaw21_IntrinsicSofter.j0 500 l (a : Int) (b : Int) t = some true := by
    intro t ht
    rw [stickfullaw21_IntrinsicSofter.j0]
    cases t with
    | true => rfl
    | false =>
      obtain ⟨h1, h2⟩ := ht rfl
      rw [if_neg (by simp)]
      exact softer_l0 l a b (by omega) (by omega) h2 h1 l.length 499 0 (by omega) (by omega) (by omega) (fun j hj => by omega)
  unfold stickfullaw21_IntrinsicSofter.f stickfullaw21_great.f
  rw [Option.bind_some]
  by_cases h : (l.length : Int) > 120
  · rw [if_pos (by simpa using h)]; exact hj true (by simp)
  · rw [if_neg (by simpa using h)]
    refine hj _ (fun e => ?_)
    rw [beq_eq_false_iff_ne] at e
    omega
end Go.Proofs.Ytkcmehijmgjgfaa.MIntrinsicSofter
