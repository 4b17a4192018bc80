/-
  The plain law of TrimBounds: lists and numbers alone. Conditions: at most 150 cells; each goes from 0 to 2^40; the start is of a size of at most 2^40; else the law answers by its known lines.
-/
import Derived.Test.YtkcmehijmgjgfaaMTrimBoundsx4
import Derived.Test.YtkcmehijmgjgfaaMTrimBoundsx3
import Derived.Test.YtkcmehijmgjgfaaMTrimBoundsx2
import Derived.Test.YtkcmehijmgjgfaaMTrimBoundsx1
namespace Go.Proofs.Ytkcmehijmgjgfaa.MTrimBounds
open Go.RowKit Go.Proofs.YtkcmehijmgjgfaaW.PrintWords Go.Proofs.YtkcmehijmgjgfaaW.PrintLast Go.Proofs.YtkcmehijmgjgfaaW.PrintMore
set_option linter.unusedVariables false

def stepV (c : S25) (y : Int) : Int := if c.f0 = 4 then (if c.f3 = 0 then y else y - y % c.f3 + c.f3) else y + c.f3
theorem stepV_le (c : S25) (y : Int) (h : 0 ≤ c.f3) : y ≤ stepV c y ∧ stepV c y ≤ y + c.f3 := by
  unfold stepV
  split
  · split
    · omega
    · have h1 := Int.emod_nonneg y (show c.f3 ≠ 0 by assumption)
      have h2 := Int.emod_lt_of_pos y (show 0 < c.f3 by omega)
      omega
  · omega
theorem stepV_mono (c : S25) {y z : Int} (h : 0 ≤ c.f3) (hyz : y ≤ z) : stepV c y ≤ stepV c z := by
  unfold stepV
  split
  · split
    · exact hyz
    · have hp : 0 < c.f3 := by omega
      have h1 : y - y % c.f3 = c.f3 * (y / c.f3) := by have := Int.mul_ediv_add_emod y c.f3; omega
      have h2 : z - z % c.f3 = c.f3 * (z / c.f3) := by have := Int.mul_ediv_add_emod z c.f3; omega
      rw [h1, h2]
      have := Int.mul_le_mul_of_nonneg_left (Int.ediv_le_ediv hp hyz) h
      omega
  · omega
theorem sum_fit (l : List Int) (hl : l.length < 100) (hm : ∀ x ∈ l, -4611686018427387904 ≤ x ∧ x ≤ 4611686018427387904) (hs : -4611686018427387904 ≤ l.sum ∧ l.sum ≤ 4611686018427387904) : unit_Sum.f l = some (l.sum, 0) := by
  unfold unit_Sum.f
  rw [if_pos ⟨by omega, fun x hx => by have := hm x hx; omega⟩, fitS_yes hs]
theorem stop_f (y s : Int) (hs : 1 ≤ s) (hs2 : s ≤ 1099511627776) (hy : -281474976710656 ≤ y ∧ y ≤ 281474976710656) : unit_Stop.f y s = some (y - y % s + s, 0) := by
  unfold unit_Stop.f
  rw [if_neg (by omega), if_neg (by omega)]
  have e0 := Int.emod_nonneg y (show s ≠ 0 by omega)
  have e1 := Int.emod_lt_of_pos y (show 0 < s by omega)
  have t0 : Int.tmod y s = y % s ∨ Int.tmod y s = y % s - s := by
    rw [Int.tmod_eq_emod]
    split
    · left; omega
    · right
      rw [Int.natAbs_of_nonneg (by omega)]
  by_cases h : Int.tmod y s < 0
  · rw [if_pos h]
    have ht : Int.tmod y s = y % s - s := by omega
    rw [ht]
    have w : wrap64 (-(wrap64 (y % s - s + s))) = -(y % s) := by unfold wrap64; omega
    rw [w, sum_fit _ (by simp) (by simp; omega) (by simp; omega)]
    simp; omega
  · rw [if_neg h]
    have ht : Int.tmod y s = y % s := by omega
    rw [ht]
    have w : wrap64 (-(y % s)) = -(y % s) := by unfold wrap64; omega
    rw [w, sum_fit _ (by simp) (by simp; omega) (by simp; omega)]
    simp; omega
theorem step_f (c : S25) (y : Int) (h0 : 0 ≤ c.f3) (h1 : c.f3 ≤ 1099511627776) (hy : -281474976710656 ≤ y ∧ y ≤ 281474976710656) :
    tabs_Step.f 1 c.f0 c.f1 c.f2 c.f3 c.f4 c.f5 y = some (stepV c y, 0) := by
  unfold tabs_Step.f stepV
  rw [sum_fit [y] (by simp) (by simp; omega) (by simp; omega)]
  simp only [Option.bind_some, List.sum_cons, List.sum_nil, Int.add_zero, tabs_Step.j0]
  by_cases h4 : c.f0 = 4
  · rw [if_pos h4, if_pos h4, if_neg (by simp; omega)]
    simp only [if_pos h4, if_true]
    by_cases hz : c.f3 = 0
    · rw [if_pos hz, if_pos hz]
    · rw [if_neg hz, if_neg hz, stop_f y c.f3 (by omega) h1 hy]
      rfl
  · rw [if_neg h4, if_neg h4, if_neg (by simp), if_neg h4, sum_fit [y, c.f3] (by simp) (by simp; omega) (by simp; omega)]
    simp
theorem role_f (roles : List Int) (i : Nat) : tabs_role.f roles i = some (roles.getD i 0) := by
  unfold tabs_role.f
  by_cases h : i < roles.length
  · rw [if_pos (by omega), if_pos (by omega)]
    simp [rd]
  · rw [if_neg (by omega), List.getD_eq_getElem?_getD, List.getElem?_eq_none (by omega)]
    rfl
def endV (g : Nat → Bool) : Nat → Int → List S25 → Int
  | _, y, [] => y
  | i, y, c :: l => endV g (i + 1) (if g i then y else stepV c y) l
def goneB (roles : List Int) (i : Nat) : Bool := roles.getD i 0 == 1
theorem endV_ge (g : Nat → Bool) : ∀ (l : List S25) (i : Nat) (y : Int), (∀ c ∈ l, 0 ≤ c.f3) → y ≤ endV g i y l
  | [], _, y, _ => Int.le_refl y
  | c :: l, i, y, h => by
    have h1 := endV_ge g l (i + 1) (if g i then y else stepV c y) (fun d hd => h d (List.mem_cons_of_mem _ hd))
    have h2 := (stepV_le c y (h c List.mem_cons_self)).1
    rw [endV]
    refine Int.le_trans ?_ h1
    split <;> omega
theorem endV_mono (g g' : Nat → Bool) (hg : ∀ i, g' i = true → g i = true) : ∀ (l : List S25) (i : Nat) (y z : Int), (∀ c ∈ l, 0 ≤ c.f3) → y ≤ z → endV g i y l ≤ endV g' i z l
  | [], _, _, _, _, h => h
  | c :: l, i, y, z, h, hyz => by
    rw [endV, endV]
    refine endV_mono g g' hg l (i + 1) _ _ (fun d hd => h d (List.mem_cons_of_mem _ hd)) ?_
    have h2 := (stepV_le c z (h c List.mem_cons_self)).1
    have h3 := stepV_mono c (h c List.mem_cons_self) hyz
    cases e : g' i with
    | true => rw [hg i e]; simpa using hyz
    | false =>
      cases g i with
      | true => simp; omega
      | false => simpa using h3
theorem endV_same (g : Nat → Bool) : ∀ (l : List S25) (i : Nat) (y : Int), (∀ (j : Nat) (c : S25), l[j]? = some c → g (i + j) = true ∨ stepV c y = y) → endV g i y l = y
  | [], _, _, _ => rfl
  | c :: l, i, y, h => by
    rw [endV]
    have h0 := h 0 c rfl
    have e : (if g i then y else stepV c y) = y := by
      rcases h0 with h0 | h0
      · rw [Nat.add_zero] at h0; rw [h0]; rfl
      · rw [h0]; simp
    rw [e]
    exact endV_same g l (i + 1) y (fun j d hd => by have := h (j + 1) d (by simpa using hd); rwa [show i + 1 + j = i + (j + 1) by omega])
theorem pensO_f (roles : List Int) : ∀ (l : List S25) (i : Nat) (y : Int), (∀ c ∈ l, 0 ≤ c.f3 ∧ c.f3 ≤ 1099511627776) → (l.length : Int) ≤ 150 - i → -281474976710656 / 150 * (1 : Int) ≤ y → -1099511627776 * 2 ≤ y → y ≤ 1099511627776 * (i + 1) → 
    ∃ ps, pensO roles i y l = some ps ∧ ps.length = l.length ∧ (∀ p ∈ ps, p.2 = 0) ∧ ((y :: ps.map (·.1)).getLast?) = some (endV (goneB roles) i y l)
  | [], _, y, _, _, _, _, _ => ⟨[], rfl, rfl, by simp, rfl⟩
  | c :: l, i, y, h, hl, _, hy1, hy2 => by
    obtain ⟨h0, h1⟩ := h c List.mem_cons_self
    have hi : (i : Int) ≤ 150 := by simp at hl; omega
    have hs := step_f c y h0 h1 (by omega)
    have hle := stepV_le c y h0
    have hp : penStep roles i c y = some (if goneB roles i then y else stepV c y, 0) := by
      unfold penStep goneB
      rw [role_f, Option.bind_some]
      by_cases e : roles.getD i 0 = 1
      · rw [if_pos e, e]; rfl
      · rw [if_neg e, hs, if_neg (by simpa using e)]
    obtain ⟨ps, e1, e2, e3, e4⟩ := pensO_f roles l (i + 1) (if goneB roles i then y else stepV c y) (fun d hd => h d (List.mem_cons_of_mem _ hd)) (by simp at hl ⊢; omega) (by split <;> omega) (by split <;> omega) (by split <;> (simp; omega))
    refine ⟨(if goneB roles i then y else stepV c y, 0) :: ps, ?_, by simp [e2], ?_, ?_⟩
    · rw [pensO, hp, Option.bind_some, if_pos rfl, e1]; rfl
    · intro p hp'
      rcases List.mem_cons.1 hp' with rfl | hp'
      · rfl
      · exact e3 p hp'
    · rw [endV, List.map_cons, List.getLast?_cons_cons]
      exact e4
theorem end_f (l : List S25) (roles : List Int) (x : Int) (h : ∀ c ∈ l, 0 ≤ c.f3 ∧ c.f3 ≤ 1099511627776) (hl : l.length ≤ 150) (hx1 : -1099511627776 ≤ x) (hx2 : x ≤ 1099511627776) :
    tabs_End.f l roles x = some (endV (goneB roles) 0 x l, 0) := by
  obtain ⟨ps, e1, e2, e3, e4⟩ := pensO_f roles l 0 x h (by omega) (by omega) (by omega) (by omega)
  have hp : tabs_Pens.f l roles x = some (x :: ps.map (·.1), 0) := by
    unfold tabs_Pens.f
    rw [if_pos (by omega), if_neg, sum_fit [x] (by simp) (by simp; omega) (by simp; omega), Option.bind_some, if_neg (by simp), e1]
    · simp only [Option.map_some]
      rw [if_neg]
      simp only [List.any_eq_true, not_exists, not_and]
      intro p hp'
      simp [e3 p hp']
    · simp only [List.any_eq_true, not_exists, not_and]
      intro c hc
      have := (h c hc).1
      unfold badTab
      simp
      intro _; omega
  unfold tabs_End.f
  rw [hp, Option.bind_some]
  simp only [if_true]
  have hlen : ((x :: ps.map (·.1)).length : Int) = ps.length + 1 := by simp
  rw [hlen]
  have w : wrap64 ((ps.length : Int) + 1 - 1) = ps.length := by unfold wrap64; omega
  rw [w, if_pos (by omega), if_pos (by omega)]
  congr 2
  rw [List.getLast?_eq_getElem?] at e4
  simp only [List.length_cons, List.length_map, Nat.add_sub_cancel] at e4
  unfold rd
  rw [Int.toNat_natCast, List.getD_eq_getElem?_getD, e4]
  rfl
theorem goneB_unhang (r : List Int) (i : Nat) (h : goneB r i = true) : goneB (unhang r) i = true := by
  unfold goneB unhang at *
  simp only [beq_iff_eq, List.getD_eq_getElem?_getD, List.getElem?_map] at *
  cases e : r[i]? with
  | none => rw [e] at h; simp at h
  | some x => rw [e] at h; simp at h; simp [unh, h]
theorem goneB_nil (i : Nat) : goneB [] i = false := by simp [goneB]
theorem roles_f (l : List S25) (h : l.length ≤ 150) : trim_Roles.f l = some (rolesS l) := if_pos (by omega)
theorem rolesS_length (l : List S25) : (rolesS l).length = l.length := by unfold rolesS; simp [giveS_length]
theorem fits_f (l : List S25) (x : Int) (h : ∀ c ∈ l, 0 ≤ c.f3 ∧ c.f3 ≤ 1099511627776) (hl : l.length ≤ 150) (hx1 : -1099511627776 ≤ x) (hx2 : x ≤ 1099511627776) :
    trim_Fits.f l x = some (endV (goneB (unhang (rolesS l))) 0 x l, 0) := by
  unfold trim_Fits.f
  rw [roles_f l hl, Option.bind_some, end_f l _ x h hl hx1 hx2]
theorem goes_f (l : List S25) (x : Int) (h : ∀ c ∈ l, 0 ≤ c.f3 ∧ c.f3 ≤ 1099511627776) (hl : l.length ≤ 150) (hx1 : -1099511627776 ≤ x) (hx2 : x ≤ 1099511627776) :
    trim_Goes.f l x = some (endV (goneB (rolesS l)) 0 x l, 0) := by
  unfold trim_Goes.f
  rw [roles_f l hl, Option.bind_some, end_f l _ x h hl hx1 hx2]
  rfl
theorem rd_at (l : List S25) (i : Nat) (h : i < l.length) : rd_T25 l (i : Int) = l[i] := by
  unfold rd_T25; rw [Int.toNat_natCast, List.getD_eq_getElem?_getD, List.getElem?_eq_getElem h]; rfl
theorem blank_l0 (l : List S25) (rs : List Int) (hr : rs.length = l.length) (hl : l.length ≤ 150) : ∀ (d k i : Nat), i ≤ l.length → l.length - i = d → d < k →
    ∃ b, trim_Blank.l0 k l rs (rs.length : Int) (i : Int) = some b ∧ (b = true → ∀ j (h : j < l.length), i ≤ j → rs.getD j 0 = 1 ∨ edgeB l[j] = true)
  | 0, k, i, hi, hd, hk => by
    obtain ⟨k, rfl⟩ : ∃ m, k = m + 1 := ⟨k - 1, by omega⟩
    refine ⟨true, ?_, fun _ j h hj => by omega⟩
    rw [trim_Blank.l0, if_neg (by omega)]
  | d + 1, k, i, hi, hd, hk => by
    obtain ⟨k, rfl⟩ : ∃ m, k = m + 1 := ⟨k - 1, by omega⟩
    obtain ⟨b, hb, hb2⟩ := blank_l0 l rs hr hl d k (i + 1) (by omega) (by omega) (by omega)
    have hw : wrap64 ((i : Int) + 1) = ((i + 1 : Nat) : Int) := by unfold wrap64; omega
    have hil : i < l.length := by omega
    have hrd : rd rs (i : Int) = rs.getD i 0 := by simp [rd]
    rw [trim_Blank.l0, if_pos (by omega), if_pos (by omega), if_pos (by omega), hw, hb, hrd]
    by_cases h1 : rs.getD i 0 = 1
    · rw [if_pos h1]
      refine ⟨b, rfl, fun e j h hj => ?_⟩
      rcases Nat.eq_or_lt_of_le hj with rfl | hj
      · exact .inl h1
      · exact hb2 e j h (by omega)
    · rw [if_neg h1, if_pos (by omega), rd_at l i hil, edge_f, Option.bind_some]
      cases he : edgeB l[i] with
      | true =>
        refine ⟨b, rfl, fun e j h hj => ?_⟩
        rcases Nat.eq_or_lt_of_le hj with rfl | hj
        · exact .inr he
        · exact hb2 e j h (by omega)
      | false => exact ⟨false, rfl, fun e => by cases e⟩
theorem edged_l0 (l : List S25) (hl : l.length ≤ 150) : ∀ (d k i : Nat), i ≤ l.length → l.length - i = d → d < k →
    ∃ b, stickfullaw13_edged.l0 k l (i : Int) = some b ∧ (b = false → ∀ j (h : j < l.length), i ≤ j → l[j].f0 = 1 ∨ l[j].f3 = 0)
  | 0, k, i, hi, hd, hk => by
    obtain ⟨k, rfl⟩ : ∃ m, k = m + 1 := ⟨k - 1, by omega⟩
    refine ⟨false, ?_, fun _ j h hj => by omega⟩
    rw [stickfullaw13_edged.l0, if_neg (by omega)]
  | d + 1, k, i, hi, hd, hk => by
    obtain ⟨k, rfl⟩ : ∃ m, k = m + 1 := ⟨k - 1, by omega⟩
    obtain ⟨b, hb, hb2⟩ := edged_l0 l hl d k (i + 1) (by omega) (by omega) (by omega)
    have hw : wrap64 ((i : Int) + 1) = ((i + 1 : Nat) : Int) := by unfold wrap64; omega
    have hil : i < l.length := by omega
    rw [stickfullaw13_edged.l0, if_pos (by omega), if_pos (by omega), rd_at l i hil, hw, hb]
    by_cases h1 : l[i].f0 = 1
    · rw [if_pos h1]
      refine ⟨b, rfl, fun e j h hj => ?_⟩
      rcases Nat.eq_or_lt_of_le hj with rfl | hj
      · exact .inl h1
      · exact hb2 e j h (by omega)
    · rw [if_neg h1]
      by_cases h2 : l[i].f3 = 0
      · rw [if_pos h2]
        refine ⟨b, rfl, fun e j h hj => ?_⟩
        rcases Nat.eq_or_lt_of_le hj with rfl | hj
        · exact .inr h2
        · exact hb2 e j h (by omega)
      · rw [if_neg h2]
        exact ⟨true, rfl, fun e => by cases e⟩
theorem head_f : stickfullaw13_head.f = some true := rfl
theorem law_l0 (l : List S25) (x : Int) (hl : l.length ≤ 150) (hx1 : -1099511627776 ≤ x) (hx2 : x ≤ 1099511627776) : ∀ (d k i : Nat), i ≤ l.length → l.length - i = d → d + 400 < k →
    (∀ j (h : j < l.length), j < i → 0 ≤ l[j].f3 ∧ l[j].f3 ≤ 1099511627776) → stickfullaw13_TrimBounds.l0 k l x (i : Int) = some true
  | 0, k, i, hi, hd, hk, hall => by
    obtain ⟨k, rfl⟩ : ∃ m, k = m + 1 := ⟨k - 1, by omega⟩
    have h : ∀ c ∈ l, 0 ≤ c.f3 ∧ c.f3 ≤ 1099511627776 := fun c hc => by
      obtain ⟨j, hj, rfl⟩ := List.getElem_of_mem hc
      exact hall j hj (by omega)
    have h' : ∀ c ∈ l, 0 ≤ c.f3 := fun c hc => (h c hc).1
    rw [stickfullaw13_TrimBounds.l0, if_neg (by omega), fits_f l x h hl hx1 hx2, goes_f l x h hl hx1 hx2, end_f l [] x h hl hx1 hx2]
    simp only [Option.bind_some, if_true]
    rw [if_pos (endV_ge _ _ _ _ h'), if_pos (endV_mono _ _ (goneB_unhang _) _ _ _ _ h' (Int.le_refl _)), if_pos (endV_mono _ _ (fun i hi => by rw [goneB_nil] at hi; cases hi) _ _ _ _ h' (Int.le_refl _))]
    obtain ⟨b, hb, hb2⟩ := blank_l0 l (rolesS l) (rolesS_length l) hl l.length k 0 (by omega) (by omega) (by omega)
    obtain ⟨e, he, he2⟩ := edged_l0 l hl l.length k 0 (by omega) (by omega) (by omega)
    have hbf : trim_Blank.f k l = some b := by unfold trim_Blank.f; rw [roles_f l hl, Option.bind_some]; exact hb
    have hef : stickfullaw13_edged.f k l = some e := he
    rw [hbf, hef, head_f]
    simp only [Option.bind_some]
    cases b with
    | false => rfl
    | true =>
      cases e with
      | true => rfl
      | false =>
        simp only [if_true, Bool.false_eq_true, if_false]
        rw [if_pos]
        refine endV_same _ l 0 x (fun j c hj => ?_)
        obtain ⟨hjl, rfl⟩ := List.getElem?_eq_some_iff.1 hj
        rcases hb2 rfl j hjl (by omega) with h1 | h1
        · left
          rw [Nat.zero_add]
          exact goneB_unhang _ _ (by unfold goneB; rw [h1]; rfl)
        · right
          have h4 : l[j].f0 ≠ 4 ∧ l[j].f0 ≠ 1 := by
            unfold edgeB at h1
            constructor
            · intro e; rw [e] at h1; simp at h1
            · intro e; rw [e] at h1; simp at h1
          have h5 : l[j].f3 = 0 := (he2 rfl j hjl (by omega)).resolve_left h4.2
          unfold stepV
          rw [if_neg h4.1, h5]
          omega
  | d + 1, k, i, hi, hd, hk, hall => by
    obtain ⟨k, rfl⟩ : ∃ m, k = m + 1 := ⟨k - 1, by omega⟩
    have hw : wrap64 ((i : Int) + 1) = ((i + 1 : Nat) : Int) := by unfold wrap64; omega
    have hil : i < l.length := by omega
    rw [stickfullaw13_TrimBounds.l0, if_pos (by omega), if_pos (by omega), rd_at l i hil, hw, head_f]
    by_cases h1 : l[i].f3 < 0
    · rw [if_pos h1]; rfl
    · rw [if_neg h1]
      by_cases h2 : l[i].f3 > 1099511627776
      · rw [if_pos h2]; rfl
      · rw [if_neg h2]
        refine law_l0 l x hl hx1 hx2 d k (i + 1) (by omega) (by omega) (by omega) (fun j h hj => ?_)
        rcases Nat.eq_or_lt_of_le (Nat.le_of_lt_succ hj) with rfl | hj
        · omega
        · exact hall j h hj
/-- The plain law. -/
theorem pure (l : List S25) (x : Int) : stickfullaw13_TrimBounds.f 700 l x = some true := by
  have hj : ∀ b, (b = true ∨ (l.length ≤ 150 ∧ -1099511627776 ≤ x ∧ x ≤ 1099511627776)) → stickfullaw13_TrimBounds.j0 700 l x b = some true := by
    intro b hb
    rw [stickfullaw13_TrimBounds.j0]
    cases b with
    | true => rfl
    | false =>
      rw [if_neg (by simp)]
      obtain ⟨h1, h2, h3⟩ := hb.resolve_left (by simp)
      exact law_l0 l x h1 h2 h3 l.length 699 0 (by omega) (by omega) (by omega) (fun j _ hj => by omega)
  unfold stickfullaw13_TrimBounds.f
  by_cases h1 : (l.length : Int) > 150
  · rw [if_pos h1]; exact hj _ (.inl rfl)
  · rw [if_neg h1]
    by_cases h2 : x > 1099511627776
    · rw [if_pos h2]; exact hj _ (.inl rfl)
    · rw [if_neg h2]
      apply hj
      by_cases h3 : x < -1099511627776
      · left; simpa using h3
      · right; omega
end Go.Proofs.Ytkcmehijmgjgfaa.MTrimBounds
