/-
  The plain law of IntrinsicGrows: lists and numbers alone. Conditions: the cells' advances are in int64's range.
-/
import Derived.Test.YtkcmehijmgjgfaaMIntrinsicGrowsx5
namespace Go.Proofs.Ytkcmehijmgjgfaa.MIntrinsicGrows
open Go.RowKit Go.Proofs.YtkcmehijmgjgfaaW.PrintWords Go.Proofs.YtkcmehijmgjgfaaW.PrintLast Go.Proofs.YtkcmehijmgjgfaaW.PrintMore
set_option linter.unusedVariables false
set_option linter.unusedSimpArgs false
theorem rd25 (l : List S25) (i : Nat) : rd_T25 l (i : Int) = l.getD i z25 := by unfold rd_T25; rw [Int.toNat_natCast]
theorem partsL_P (cut : S25 → Bool) (l : List S25) : Parts cut l 0 (partsL cut l) := by
  by_cases h0 : 0 < l.length
  · exact parts_go cut l l.length 0 0 (by omega) (by omega) h0 (fun j h1 h2 => by omega)
  · obtain rfl : l = [] := List.eq_nil_of_length_eq_zero (by omega)
    exact .nil
theorem wr1 (i : Nat) (h : i < 4611686018427387904) : wrap64 ((i : Int) + 1) = ((i + 1 : Nat) : Int) := by unfold wrap64; omega
theorem wr2 (i : Nat) (h : i < 4611686018427387904) (h0 : 0 < i) : wrap64 ((i : Int) - 1) = ((i - 1 : Nat) : Int) := by unfold wrap64; omega
abbrev nv : S25 → Bool := fun _ => false
def I64 (x : Int) : Prop := -9223372036854775808 ≤ x ∧ x ≤ 9223372036854775807
theorem sum_some (l : List Int) (hl : l.length < 100) (hm : ∀ x ∈ l, I64 x) : ∃ r : Int × Int, unit_Sum.f l = some r ∧ I64 r.1 := by
  unfold unit_Sum.f
  rw [if_pos ⟨by omega, hm⟩]
  refine ⟨_, rfl, ?_⟩
  unfold fitS I64
  split <;> (try simp only []) <;> omega
theorem wrap_I (x : Int) : I64 (wrap64 x) := by unfold wrap64 I64; omega
theorem stop_some (y s : Int) (hy : I64 y) (hs : I64 s) : ∃ r : Int × Int, unit_Stop.f y s = some r ∧ I64 r.1 := by
  unfold unit_Stop.f
  by_cases h1 : s < 1
  · rw [if_pos h1]; exact ⟨_, rfl, by unfold I64; simp⟩
  · rw [if_neg h1, if_neg (by omega)]
    split
    · obtain ⟨r, h, hr⟩ := sum_some [y, wrap64 (-(wrap64 (Int.tmod y s + s))), s] (by simp) (by intro x hx; simp at hx; rcases hx with rfl | rfl | rfl <;> first | assumption | exact wrap_I _)
      rw [h]; exact ⟨_, rfl, hr⟩
    · obtain ⟨r, h, hr⟩ := sum_some [y, wrap64 (-(Int.tmod y s)), s] (by simp) (by intro x hx; simp at hx; rcases hx with rfl | rfl | rfl <;> first | assumption | exact wrap_I _)
      rw [h]; exact ⟨_, rfl, hr⟩
theorem step_some (c : S25) (y : Int) (hc : I64 c.f3) (hy : I64 y) : ∃ r : Int × Int, tabs_Step.f 1 c.f0 c.f1 c.f2 c.f3 c.f4 c.f5 y = some r ∧ I64 r.1 := by
  have z0 : I64 0 := by unfold I64; omega
  obtain ⟨r1, h1, hr1⟩ := sum_some [y] (by simp) (by intro x hx; simp at hx; subst hx; exact hy)
  have hj : ∀ b, ∃ r : Int × Int, tabs_Step.j0 1 y r1.2 b c.f0 c.f1 c.f2 c.f3 c.f4 c.f5 = some r ∧ I64 r.1 := by
    intro b
    rw [tabs_Step.j0]
    split
    · exact ⟨_, rfl, z0⟩
    · split
      · split
        · split
          · exact ⟨_, rfl, hy⟩
          · obtain ⟨r, h, hr⟩ := stop_some y c.f3 hy hc
            rw [h]; exact ⟨_, rfl, hr⟩
        · exact ⟨_, rfl, z0⟩
      · obtain ⟨r, h, hr⟩ := sum_some [y, c.f3] (by simp) (by intro x hx; simp at hx; rcases hx with rfl | rfl <;> assumption)
        rw [h]; exact ⟨_, rfl, hr⟩
  unfold tabs_Step.f
  rw [h1, Option.bind_some]
  split
  · exact hj _
  · exact hj _
theorem role_some (roles : List Int) (i : Nat) : ∃ r, tabs_role.f roles i = some r := by
  unfold tabs_role.f
  split
  · rw [if_pos (by omega)]; exact ⟨_, rfl⟩
  · exact ⟨_, rfl⟩
theorem penStep_some (roles : List Int) (i : Nat) (c : S25) (y : Int) (hc : I64 c.f3) (hy : I64 y) : ∃ r : Int × Int, penStep roles i c y = some r ∧ I64 r.1 := by
  unfold penStep
  obtain ⟨r, h⟩ := role_some roles i
  rw [h, Option.bind_some]
  split
  · exact ⟨_, rfl, hy⟩
  · exact step_some c y hc hy
theorem pensO_some (roles : List Int) : ∀ (l : List S25) (i : Nat) (y : Int), (∀ c ∈ l, I64 c.f3) → I64 y → ∃ ps, pensO roles i y l = some ps
  | [], _, _, _, _ => ⟨[], rfl⟩
  | c :: l, i, y, h, hy => by
    obtain ⟨r, h1, hr⟩ := penStep_some roles i c y (h c List.mem_cons_self) hy
    rw [pensO, h1, Option.bind_some]
    split
    · obtain ⟨ps, h2⟩ := pensO_some roles l (i + 1) r.1 (fun d hd => h d (List.mem_cons_of_mem _ hd)) hr
      rw [h2]; exact ⟨_, rfl⟩
    · exact ⟨_, rfl⟩
theorem pensO_len (roles : List Int) : ∀ (l : List S25) (i : Nat) (y : Int) (ps : List (Int × Int)), pensO roles i y l = some ps → ps.length ≤ l.length := fun l i y ps h => pensO_length h
theorem end_some (l : List S25) (roles : List Int) (x : Int) (h : ∀ c ∈ l, I64 c.f3) (hx : I64 x) (hl : l.length < 4398046511104) : ∃ r, tabs_End.f l roles x = some r := by
  have hp : ∃ r : List Int × Int, tabs_Pens.f l roles x = some r ∧ (r.2 = 0 → 1 ≤ r.1.length ∧ r.1.length < 4398046511106) := by
    unfold tabs_Pens.f
    rw [if_pos hl]
    split
    · exact ⟨_, rfl, fun h => by simp at h⟩
    · obtain ⟨s, hs, hs2⟩ := sum_some [x] (by simp) (by intro y hy; simp at hy; subst hy; exact hx)
      rw [hs, Option.bind_some]
      split
      · rename_i h0
        exact ⟨_, rfl, fun h => absurd h h0⟩
      · obtain ⟨ps, hps⟩ := pensO_some roles l 0 x h hx
        have hlen := pensO_length hps
        rw [hps]
        simp only [Option.map_some]
        split
        · rename_i hany
          refine ⟨_, rfl, fun h0 => ?_⟩
          exfalso
          obtain ⟨p, hp, hp2⟩ := List.any_eq_true.1 hany
          obtain ⟨j, hj⟩ := List.getElem?_of_mem hp
          have := pensO_last hps hj (by simpa using hp2)
          rw [this] at h0
          simp at hp2
          exact hp2 h0
        · exact ⟨_, rfl, fun _ => by simp; omega⟩
  obtain ⟨r, h1, h2⟩ := hp
  unfold tabs_End.f
  rw [h1, Option.bind_some]
  split
  · rename_i h0
    have := h2 h0
    have hw : wrap64 ((r.1.length : Int) - 1) = (r.1.length : Int) - 1 := by unfold wrap64; omega
    rw [hw, if_pos (by omega), if_pos (by omega)]
    exact ⟨_, rfl⟩
  · exact ⟨_, rfl⟩
theorem fits_some (l : List S25) (h : ∀ c ∈ l, I64 c.f3) (hl : l.length < 4398046511104) : ∃ r, trim_Fits.f l 0 = some r := by
  unfold trim_Fits.f trim_Roles.f
  rw [if_pos hl, Option.bind_some]
  exact end_some l _ 0 h (by unfold I64; omega) hl
theorem greatO_ge : ∀ (rs : List (Int × Int)) (y : Int), (greatO y rs).2 = 0 → y ≤ (greatO y rs).1 ∧ (∀ r ∈ rs, r.2 = 0 ∧ r.1 ≤ (greatO y rs).1)
  | [], y, _ => ⟨Int.le_refl y, fun r hr => by cases hr⟩
  | r :: rs, y, h => by
    rw [greatO] at h ⊢
    by_cases e : r.2 = 0
    · rw [if_pos e] at h ⊢
      obtain ⟨h1, h2⟩ := greatO_ge rs (max y r.1) h
      refine ⟨by omega, fun q hq => ?_⟩
      rcases List.mem_cons.1 hq with rfl | hq
      · exact ⟨e, by omega⟩
      · exact h2 q hq
    · rw [if_neg e] at h; exact absurd h e
theorem greatO_mono : ∀ (rs : List (Int × Int)) (y z : Int), y ≤ z → (greatO y rs).2 = 0 → (greatO z rs).2 = 0 ∧ (greatO y rs).1 ≤ (greatO z rs).1
  | [], y, z, h, _ => ⟨rfl, h⟩
  | r :: rs, y, z, h, h0 => by
    rw [greatO] at h0 ⊢
    rw [greatO]
    by_cases e : r.2 = 0
    · rw [if_pos e] at h0 ⊢
      rw [if_pos e]
      exact greatO_mono rs _ _ (by omega) h0
    · rw [if_neg e] at h0; exact absurd h0 e
theorem greatO_app : ∀ (rs t : List (Int × Int)) (y : Int), (greatO y (rs ++ t)).2 = 0 → (greatO y rs).2 = 0 ∧ greatO y (rs ++ t) = greatO (greatO y rs).1 t
  | [], t, y, h => ⟨rfl, rfl⟩
  | r :: rs, t, y, h => by
    rw [List.cons_append, greatO] at h ⊢
    rw [greatO]
    by_cases e : r.2 = 0
    · rw [if_pos e] at h ⊢
      rw [if_pos e]
      exact greatO_app rs t _ h
    · rw [if_neg e] at h; exact absurd h e
theorem greatO_top : ∀ (rs : List (Int × Int)) (y : Int), (∀ r ∈ rs, r.2 = 0 ∧ r.1 ≤ y) → greatO y rs = (y, 0)
  | [], y, _ => rfl
  | r :: rs, y, h => by
    obtain ⟨h1, h2⟩ := h r List.mem_cons_self
    rw [greatO, if_pos h1, show max y r.1 = y by omega]
    exact greatO_top rs y (fun q hq => h q (List.mem_cons_of_mem _ hq))
theorem greatO_err : ∀ (rs : List (Int × Int)) (y : Int), (∀ r ∈ rs, r.2 = 0) → (greatO y rs).2 = 0
  | [], y, _ => rfl
  | r :: rs, y, h => by
    rw [greatO, if_pos (h r List.mem_cons_self)]
    exact greatO_err rs _ (fun q hq => h q (List.mem_cons_of_mem _ hq))
theorem fitsO_some (l : List S25) (h : ∀ c ∈ l, I64 c.f3) (hl : l.length < 4398046511104) : ∀ ps : List (Nat × Nat), ∃ rs, fitsO l ps = some rs
  | [] => ⟨[], rfl⟩
  | p :: ps => by
    obtain ⟨r, h1⟩ := fits_some ((l.take p.2).drop p.1) (fun c hc => h c (List.mem_of_mem_take (List.mem_of_mem_drop hc))) (by rw [List.length_drop, List.length_take]; omega)
    obtain ⟨rs, h2⟩ := fitsO_some l h hl ps
    rw [fitsO, h1, Option.bind_some, h2]
    exact ⟨_, rfl⟩
def cF : S25 := ⟨5, 0, 0, 0, false, false⟩
theorem getD_app (x : List S25) (F : S25) (i : Nat) (h : i < x.length) : (x ++ [F]).getD i z25 = x.getD i z25 := by
  rw [List.getD_eq_getElem?_getD, List.getElem?_append_left h, ← List.getD_eq_getElem?_getD]
theorem getD_last (x : List S25) (F : S25) : (x ++ [F]).getD x.length z25 = F := by
  rw [List.getD_eq_getElem?_getD, List.getElem?_append_right (Nat.le_refl _)]; simp
theorem tw_congr (q r : Nat → Bool) : ∀ (L : List Nat), (∀ i ∈ L, q i = r i) → L.takeWhile q = L.takeWhile r
  | [], _ => rfl
  | a :: L, h => by
    rw [List.takeWhile_cons, List.takeWhile_cons, h a List.mem_cons_self, tw_congr q r L (fun i hi => h i (List.mem_cons_of_mem _ hi))]
theorem fromDown_app (p : S25 → Bool) (x : List S25) (hp : p cF = true) : fromDown p (x ++ [cF]) = x.length :: fromDown p x := by
  unfold fromDown
  rw [List.length_append, List.length_singleton, List.range_succ, List.reverse_append, List.reverse_singleton, List.singleton_append, List.takeWhile_cons, getD_last, hp]
  simp only [if_true]
  congr 1
  exact tw_congr _ _ _ (fun i hi => by rw [getD_app x cF i (by simpa using hi)])
theorem fromUp_app (p : S25 → Bool) (x : List S25) (hp : p cF = true) : fromUp p (x ++ [cF]) = fromUp p x ∨ fromUp p (x ++ [cF]) = fromUp p x ++ [x.length] := by
  unfold fromUp
  rw [List.length_append, List.length_singleton, List.range_succ, List.takeWhile_append]
  have e := tw_congr (fun i => p ((x ++ [cF]).getD i z25)) (fun i => p (x.getD i z25)) (List.range x.length) (fun i hi => by rw [getD_app x cF i (by simpa using hi)])
  rw [e]
  split
  · rename_i h
    right
    rw [List.takeWhile_cons, getD_last, hp]
    have : (List.range x.length).takeWhile (fun i => p (x.getD i z25)) = List.range x.length := (List.takeWhile_sublist _).eq_of_length h
    rw [this]; rfl
  · left; rfl
theorem give1_app (x : List S25) (kind role : Int) (o : List Int) (ho : o.length = x.length) (i : Nat) (hi : i < x.length) : give1 (x ++ [cF]) kind role (o ++ [0]) i = give1 x kind role o i ++ [0] := by
  unfold give1
  rw [getD_app x cF i hi]
  split
  · rw [List.set_append_left _ _ (by omega)]
  · rfl
theorem give1_last (x : List S25) (kind role : Int) (hk : kind ≠ 5) (o : List Int) : give1 (x ++ [cF]) kind role o x.length = o := by
  unfold give1
  rw [getD_last, if_neg (by unfold cF; simpa using Ne.symm hk)]
theorem giveS_app (x : List S25) (kind role : Int) (hk : kind ≠ 5) : ∀ (xs : List Nat) (o : List Int), o.length = x.length → (∀ i ∈ xs, i < x.length) → giveS (x ++ [cF]) kind role (o ++ [0]) xs = giveS x kind role o xs ++ [0]
  | [], o, _, _ => rfl
  | a :: xs, o, ho, h => by
    rw [giveS, List.foldl_cons, give1_app x kind role o ho a (h a List.mem_cons_self), ← giveS, giveS_app x kind role hk xs _ (by rw [give1_length]; exact ho) (fun i hi => h i (List.mem_cons_of_mem _ hi))]
    rfl
theorem mem_up (p : S25 → Bool) (x : List S25) : ∀ i ∈ fromUp p x, i < x.length := fun i hi => by
  have := (List.takeWhile_sublist _).subset hi
  simpa using this
theorem mem_down (p : S25 → Bool) (x : List S25) : ∀ i ∈ fromDown p x, i < x.length := fun i hi => by
  have := (List.takeWhile_sublist _).subset hi
  simpa using this
theorem giveS_up (x : List S25) (p : S25 → Bool) (hp : p cF = true) (kind role : Int) (hk : kind ≠ 5) (o : List Int) (ho : o.length = x.length) : giveS (x ++ [cF]) kind role (o ++ [0]) (fromUp p (x ++ [cF])) = giveS x kind role o (fromUp p x) ++ [0] := by
  rcases fromUp_app p x hp with e | e
  · rw [e]; exact giveS_app x kind role hk _ o ho (mem_up p x)
  · rw [e]
    have h := giveS_app x kind role hk _ o ho (mem_up p x)
    unfold giveS at h ⊢
    rw [List.foldl_append, h]
    exact give1_last x kind role hk _
theorem giveS_down (x : List S25) (p : S25 → Bool) (hp : p cF = true) (kind role : Int) (hk : kind ≠ 5) (o : List Int) (ho : o.length = x.length) : giveS (x ++ [cF]) kind role (o ++ [0]) (fromDown p (x ++ [cF])) = giveS x kind role o (fromDown p x) ++ [0] := by
  rw [fromDown_app p x hp, giveS, List.foldl_cons, ← giveS, give1_last x kind role hk]
  exact giveS_app x kind role hk _ o ho (mem_down p x)
theorem roles_app (x : List S25) : rolesS (x ++ [cF]) = rolesS x ++ [0] := by
  unfold rolesS
  rw [List.length_append, List.length_singleton, List.replicate_succ']
  rw [giveS_up x blankB rfl 1 1 (by decide) _ (by simp), giveS_down x blankB rfl 1 1 (by decide) _ (by rw [giveS_length]; simp), giveS_down x hangB rfl 2 2 (by decide) _ (by rw [giveS_length, giveS_length]; simp)]
def I62 (x : Int) : Prop := -4611686018427387904 ≤ x ∧ x ≤ 4611686018427387904
theorem sum_rng {l : List Int} {r : Int × Int} (h : unit_Sum.f l = some r) : I62 r.1 := by
  unfold unit_Sum.f at h
  split at h
  · obtain rfl := Option.some.inj h
    unfold fitS I62
    split <;> (try simp only []) <;> omega
  · cases h
theorem sum_one (y : Int) (hy : I62 y) : unit_Sum.f [y] = some (y, 0) := by
  unfold unit_Sum.f
  unfold I62 at hy
  rw [if_pos ⟨by simp, fun x hx => by simp at hx; subst hx; omega⟩, show [y].sum = y by simp, fitS_yes hy]
theorem sum_two (y : Int) (hy : I62 y) : unit_Sum.f [y, 0] = some (y, 0) := by
  unfold unit_Sum.f
  unfold I62 at hy
  rw [if_pos ⟨by simp, fun x hx => by simp at hx; omega⟩, show [y, 0].sum = y by simp, fitS_yes hy]
theorem step_forced (y : Int) (hy : I62 y) : tabs_Step.f 1 cF.f0 cF.f1 cF.f2 cF.f3 cF.f4 cF.f5 y = some (y, 0) := by
  unfold tabs_Step.f cF
  rw [sum_one y hy, Option.bind_some, if_neg (by decide), tabs_Step.j0, if_neg (by decide), if_neg (by decide), sum_two y hy]
  rfl
theorem z62 : I62 0 := by unfold I62; omega
theorem stop_rng {y s : Int} {r : Int × Int} (h : unit_Stop.f y s = some r) : I62 r.1 := by
  unfold unit_Stop.f at h
  split at h
  · obtain rfl := Option.some.inj h; exact z62
  · split at h
    · cases h
    · split at h <;>
      · obtain ⟨q, h1, h2⟩ := Option.bind_eq_some_iff.1 h
        obtain rfl := Option.some.inj h2
        exact sum_rng h1
theorem step_rng {c : S25} {y : Int} {r : Int × Int} (hy : I62 y) (h : tabs_Step.f 1 c.f0 c.f1 c.f2 c.f3 c.f4 c.f5 y = some r) : I62 r.1 := by
  have hj : ∀ (e : Int) (b : Bool), tabs_Step.j0 1 y e b c.f0 c.f1 c.f2 c.f3 c.f4 c.f5 = some r → I62 r.1 := by
    intro e b h
    rw [tabs_Step.j0] at h
    split at h
    · obtain rfl := Option.some.inj h; exact z62
    · split at h
      · split at h
        · split at h
          · obtain rfl := Option.some.inj h; exact hy
          · obtain ⟨q, h1, h2⟩ := Option.bind_eq_some_iff.1 h
            obtain rfl := Option.some.inj h2
            exact stop_rng h1
        · obtain rfl := Option.some.inj h; exact z62
      · obtain ⟨q, h1, h2⟩ := Option.bind_eq_some_iff.1 h
        obtain rfl := Option.some.inj h2
        exact sum_rng h1
  unfold tabs_Step.f at h
  obtain ⟨q, h1, h2⟩ := Option.bind_eq_some_iff.1 h
  split at h2
  · exact hj _ _ h2
  · exact hj _ _ h2
theorem penStep_rng {roles : List Int} {i : Nat} {c : S25} {y : Int} {r : Int × Int} (hy : I62 y) (h : penStep roles i c y = some r) : I62 r.1 := by
  unfold penStep at h
  obtain ⟨q, h1, h2⟩ := Option.bind_eq_some_iff.1 h
  split at h2
  · obtain rfl := Option.some.inj h2; exact hy
  · exact step_rng hy h2
theorem role_at (roles : List Int) (i : Nat) : tabs_role.f roles i = some (roles.getD i 0) := by
  unfold tabs_role.f
  by_cases h : i < roles.length
  · rw [if_pos (by omega), if_pos (by omega)]
    simp [rd]
  · rw [if_neg (by omega), List.getD_eq_getElem?_getD, List.getElem?_eq_none (by omega)]
    rfl
theorem penStep_app (roles : List Int) (i : Nat) (hi : i < roles.length) (c : S25) (y : Int) : penStep (roles ++ [0]) i c y = penStep roles i c y := by
  unfold penStep
  rw [role_at, role_at]
  rw [List.getD_eq_getElem?_getD, List.getElem?_append_left hi, ← List.getD_eq_getElem?_getD]
theorem pens_app (roles : List Int) : ∀ (l : List S25) (i : Nat) (y : Int) (ps : List (Int × Int)), i + l.length = roles.length → I62 y → pensO roles i y l = some ps → (∀ p ∈ ps, p.2 = 0) →
    pensO (roles ++ [0]) i y (l ++ [cF]) = some (ps ++ [((y :: ps.map (·.1)).getLast (by simp), 0)])
  | [], i, y, ps, hi, hy, h, _ => by
    rw [pensO] at h
    obtain rfl := Option.some.inj h
    have hp : penStep (roles ++ [0]) i cF y = some (y, 0) := by
      unfold penStep
      rw [role_at, Option.bind_some]
      have : (roles ++ [0]).getD i 0 = 0 := by
        rw [List.getD_eq_getElem?_getD, List.getElem?_append_right (by simp at hi; omega)]
        simp at hi
        simp [hi]
      rw [this, if_neg (by decide), step_forced y hy]
    rw [List.nil_append, pensO, hp, Option.bind_some, if_pos rfl, pensO]
    rfl
  | c :: l, i, y, ps, hi, hy, h, h0 => by
    rw [pensO] at h
    obtain ⟨p, h1, h2⟩ := Option.bind_eq_some_iff.1 h
    have hp := penStep_rng hy h1
    by_cases e : p.2 = 0
    · rw [if_pos e] at h2
      obtain ⟨rest, h3, rfl⟩ := Option.map_eq_some_iff.1 h2
      have ih := pens_app roles l (i + 1) p.1 rest (by simp at hi ⊢; omega) hp h3 (fun q hq => h0 q (List.mem_cons_of_mem _ hq))
      rw [List.cons_append, pensO, penStep_app roles i (by simp at hi; omega), h1, Option.bind_some, if_pos e, ih]
      simp
    · rw [if_neg e] at h2
      obtain rfl := Option.some.inj h2
      exact absurd (h0 p (by simp)) e
/-- An end without an error: each cell's step is without one. -/
theorem end_ok {l : List S25} {roles : List Int} {v : Int} (h : tabs_End.f l roles 0 = some (v, 0)) :
    l.length < 4398046511104 ∧ l.any badTab = false ∧ ∃ ps, pensO roles 0 0 l = some ps ∧ (∀ p ∈ ps, p.2 = 0) ∧ v = ((0 :: ps.map (·.1)).getLast (by simp)) := by
  unfold tabs_End.f at h
  obtain ⟨r, h1, h2⟩ := Option.bind_eq_some_iff.1 h
  unfold tabs_Pens.f at h1
  by_cases hl : l.length < 4398046511104
  case neg => rw [if_neg hl] at h1; cases h1
  rw [if_pos hl] at h1
  by_cases hb : l.any badTab = true
  · rw [if_pos hb] at h1
    obtain rfl := Option.some.inj h1
    simp at h2
  rw [if_neg hb, sum_one 0 z62, Option.bind_some, if_neg (by simp)] at h1
  obtain ⟨ps, h3, h4⟩ := Option.map_eq_some_iff.1 h1
  by_cases ha : ps.any (fun p => p.2 != 0) = true
  · rw [if_pos ha] at h4
    subst h4
    obtain ⟨p, hp, hp2⟩ := List.any_eq_true.1 ha
    obtain ⟨j, hj⟩ := List.getElem?_of_mem hp
    have := pensO_last h3 hj (by simpa using hp2)
    simp only [this] at h2
    have hp3 : p.2 ≠ 0 := by simpa using hp2
    rw [if_neg hp3] at h2
    have := Option.some.inj h2
    exact absurd (Prod.mk.inj this).2 hp3
  rw [if_neg ha] at h4
  subst h4
  have hlen := pensO_length h3
  have hw : wrap64 (((0 :: ps.map (·.1)).length : Int) - 1) = (ps.length : Int) := by
    simp only [List.length_cons, List.length_map]
    unfold wrap64; omega
  simp only [if_true] at h2
  rw [hw, if_pos (by omega), if_pos (by simp only [List.length_cons, List.length_map]; omega)] at h2
  refine ⟨hl, by simpa using hb, ps, h3, fun p hp => ?_, ?_⟩
  · have ha' : ps.any (fun p => p.2 != 0) = false := by simpa using ha
    have := List.any_eq_false.1 ha' p hp
    simpa using this
  · have := (Prod.mk.inj (Option.some.inj h2)).1
    rw [← this]
    unfold rd
    rw [Int.toNat_natCast, List.getD_eq_getElem?_getD, List.getLast_eq_getElem]
    simp only [List.length_cons, List.length_map, Nat.add_sub_cancel]
    rw [List.getElem?_eq_getElem (by simp)]
    rfl
theorem end_mk {l : List S25} {roles : List Int} (hl : l.length < 4398046511104) (hb : l.any badTab = false) {ps : List (Int × Int)} (h3 : pensO roles 0 0 l = some ps) (h0 : ∀ p ∈ ps, p.2 = 0) :
    tabs_End.f l roles 0 = some ((0 :: ps.map (·.1)).getLast (by simp), 0) := by
  have hlen := pensO_length h3
  unfold tabs_End.f tabs_Pens.f
  rw [if_pos hl, if_neg (by rw [hb]; simp), sum_one 0 z62, Option.bind_some, if_neg (by simp), h3, Option.map_some, if_neg, Option.bind_some]
  · have hw : wrap64 (((0 :: ps.map (·.1)).length : Int) - 1) = (ps.length : Int) := by
      simp only [List.length_cons, List.length_map]
      unfold wrap64; omega
    simp only [if_true]
    rw [hw, if_pos (by omega), if_pos (by simp only [List.length_cons, List.length_map]; omega)]
    congr 2
    unfold rd
    rw [Int.toNat_natCast, List.getD_eq_getElem?_getD, List.getLast_eq_getElem]
    simp only [List.length_cons, List.length_map, Nat.add_sub_cancel]
    rw [List.getElem?_eq_getElem (by simp)]
    rfl
  · simp only [List.any_eq_true, not_exists, not_and]
    intro p hp
    simp [h0 p hp]
theorem fits_app (x : List S25) (v : Int) (hl : x.length < 4398046511103) (h : trim_Fits.f x 0 = some (v, 0)) : trim_Fits.f (x ++ [cF]) 0 = some (v, 0) := by
  unfold trim_Fits.f trim_Roles.f at h ⊢
  rw [if_pos (by omega), Option.bind_some] at h
  rw [if_pos (by simp; omega), Option.bind_some]
  obtain ⟨_, hb, ps, h3, h0, hv⟩ := end_ok h
  have hrl : (unhang (rolesS x)).length = x.length := by unfold unhang rolesS; simp [giveS_length]
  have hr : unhang (rolesS (x ++ [cF])) = unhang (rolesS x) ++ [0] := by rw [roles_app]; unfold unhang; rw [List.map_append]; rfl
  have hp := pens_app (unhang (rolesS x)) x 0 0 ps (by omega) z62 h3 h0
  rw [hr, end_mk (by simp; omega) (by rw [List.any_append, hb]; rfl) hp (fun p hp' => by
    rcases List.mem_append.1 hp' with hp' | hp'
    · exact h0 p hp'
    · simp at hp'; rw [hp'])]
  rw [hv]
  have hg : ∀ (l : List Int) (z : Int) (h : (0 :: (l ++ [z])) ≠ []), (0 :: (l ++ [z])).getLast h = z := by
    intro l z h
    rw [List.getLast_cons (by simp)]
    first | exact List.getLast_append_singleton _ | exact List.getLast_concat | simp
  congr 2
  simp only [List.map_append, List.map_cons, List.map_nil]
  exact hg _ _ _
theorem seg_eq (l t : List S25) (s e : Nat) (h : e ≤ l.length) : ((l ++ t).take e).drop s = (l.take e).drop s := by
  rw [List.take_append_of_le_length h]
theorem seg_ext (l m : List S25) (s : Nat) (hs : s ≤ l.length) : ((l ++ cF :: m).take (l.length + 1)).drop s = (l.take l.length).drop s ++ [cF] := by
  rw [List.take_append]
  simp only [Nat.add_sub_cancel_left, List.take_succ_cons, List.take_zero, List.take_length]
  rw [List.take_of_length_le (by omega), List.drop_append_of_le_length hs]
/-- The fits of l's parts are the first of those of l, a forced break, and more cells. -/
theorem parts_grow (cut : S25 → Bool) (hcF : cut cF = false) (l m : List S25) (hl : l.length < 4398046511103) : ∀ (d s i : Nat), l.length - i = d → i < l.length → s ≤ i →
    ∀ rs rs', fitsO l (partsGo cut s i (l.drop i)) = some rs → (∀ r ∈ rs, r.2 = 0) → fitsO (l ++ cF :: m) (partsGo cut s i (l.drop i ++ cF :: m)) = some rs' → ∃ t, rs' = rs ++ t := by
  intro d
  induction d with
  | zero => intro s i h0 h1; omega
  | succ d ih =>
    intro s i h0 h1 h2 rs rs' h3 h4 h5
    rw [List.drop_eq_getElem_cons h1] at h3 h5
    by_cases hn : i + 1 < l.length
    · rw [List.drop_eq_getElem_cons hn] at h3 h5
      rw [List.cons_append, List.cons_append, partsGo] at h5
      rw [partsGo] at h3
      rw [← List.cons_append, ← List.drop_eq_getElem_cons hn] at h5
      rw [← List.drop_eq_getElem_cons hn] at h3
      split at h3
      · rename_i hc
        rw [if_pos hc] at h5
        rw [fitsO] at h3 h5
        obtain ⟨r, a1, a2⟩ := Option.bind_eq_some_iff.1 h3
        obtain ⟨rest, a3, rfl⟩ := Option.map_eq_some_iff.1 a2
        obtain ⟨r', b1, b2⟩ := Option.bind_eq_some_iff.1 h5
        obtain ⟨rest', b3, rfl⟩ := Option.map_eq_some_iff.1 b2
        simp only at a1 b1
        rw [seg_eq l _ s (i + 1) (by omega), a1] at b1
        obtain rfl := Option.some.inj b1
        obtain ⟨t, ht⟩ := ih (i + 1) (i + 1) (by omega) hn (Nat.le_refl _) rest rest' a3 (fun q hq => h4 q (List.mem_cons_of_mem _ hq)) b3
        exact ⟨t, by rw [ht]; rfl⟩
      · rename_i hc
        rw [if_neg hc] at h5
        exact ih s (i + 1) (by omega) hn (by omega) rs rs' h3 h4 h5
    · have hnil : l.drop (i + 1) = [] := List.drop_eq_nil_of_le (by omega)
      have hie : i + 1 = l.length := by omega
      rw [hnil] at h3 h5
      rw [partsGo, fitsO] at h3
      obtain ⟨r, a1, a2⟩ := Option.bind_eq_some_iff.1 h3
      rw [fitsO] at a2
      obtain ⟨rest, a3, rfl⟩ := Option.map_eq_some_iff.1 a2
      obtain rfl := Option.some.inj a3
      simp only at a1
      have hr0 := h4 r (by simp)
      rw [List.singleton_append, partsGo] at h5
      split at h5
      · rw [fitsO] at h5
        obtain ⟨r', b1, b2⟩ := Option.bind_eq_some_iff.1 h5
        obtain ⟨rest', b3, rfl⟩ := Option.map_eq_some_iff.1 b2
        simp only at b1
        rw [seg_eq l _ s (i + 1) (by omega), a1] at b1
        obtain rfl := Option.some.inj b1
        exact ⟨rest', rfl⟩
      · have key : ∀ rs', (∃ rest : List (Nat × Nat), fitsO (l ++ cF :: m) ((s, i + 1 + 1) :: rest) = some rs') → ∃ t, rs' = [r] ++ t := by
          rintro rs' ⟨rest, h6⟩
          rw [fitsO] at h6
          obtain ⟨r', b1, b2⟩ := Option.bind_eq_some_iff.1 h6
          obtain ⟨rest', b3, rfl⟩ := Option.map_eq_some_iff.1 b2
          simp only at b1
          rw [hie, seg_ext l m s (by omega)] at b1
          obtain ⟨v, e⟩ := r
          simp only at hr0
          subst hr0
          rw [hie] at a1
          rw [fits_app _ v (by rw [List.length_drop, List.length_take]; omega) a1] at b1
          obtain rfl := Option.some.inj b1
          exact ⟨rest', rfl⟩
        cases m with
        | nil => rw [partsGo] at h5; exact key rs' ⟨_, h5⟩
        | cons c m =>
          rw [partsGo, if_pos (.inl rfl)] at h5
          exact key rs' ⟨_, h5⟩
def hardC (c : S25) : S25 := ⟨c.f0, c.f1, c.f2, c.f3, false, false⟩
theorem partsGo_congr (cut cut' : S25 → Bool) : ∀ (l : List S25) (s i : Nat), (∀ c ∈ l, cut c = cut' c) → partsGo cut s i l = partsGo cut' s i l
  | [], s, i, _ => rfl
  | [c], s, i, _ => rfl
  | c :: d :: l, s, i, h => by
    rw [partsGo, partsGo, h d (by simp), partsGo_congr cut cut' (d :: l) _ _ (fun q hq => h q (List.mem_cons_of_mem _ hq)), partsGo_congr cut cut' (d :: l) s _ (fun q hq => h q (List.mem_cons_of_mem _ hq))]
theorem minmax_some (l : List S25) (hl : l.length < 4398046511104) (h : ∀ c ∈ l, I64 c.f3) : ∃ r q, fitsO l (partsL softB l) = some r ∧ fitsO l (partsL nv l) = some q ∧
    intrinsic_MinMax.f l = some (if (greatO 0 r).2 = 0 then (if (greatO (greatO 0 r).1 q).2 = 0 then ((greatO 0 r).1, (greatO (greatO 0 r).1 q).1, 0) else (0, 0, (greatO (greatO 0 r).1 q).2)) else (0, 0, (greatO 0 r).2)) := by
  obtain ⟨r, hr⟩ := fitsO_some l h hl (partsL softB l)
  obtain ⟨q, hq⟩ := fitsO_some l h hl (partsL nv l)
  refine ⟨r, q, hr, hq, ?_⟩
  unfold intrinsic_MinMax.f
  rw [if_pos hl, hr, Option.bind_some]
  split
  · rw [show partsL (fun _ => false) l = partsL nv l from rfl, hq, Option.bind_some]
    split <;> rfl
  · rfl
theorem l0_grows (l : List S25) (hl : l.length ≤ 60) (hI : ∀ c ∈ l, I64 c.f3) (a b c d e : Int) (h1 : 0 ≤ a) (h2 : a ≤ b) (h3 : e = 0 → a ≤ c ∧ b ≤ d) : ∀ (n k i : Nat), i ≤ l.length → l.length - i = n → n < k →
    stickfullaw21_IntrinsicGrows.l0 k l a b c d e ((l.take i).map hardC) (i : Int) = some true
  | 0, k, i, hi, hn, hk => by
    obtain ⟨k, rfl⟩ : ∃ m, k = m + 1 := ⟨k - 1, by omega⟩
    obtain rfl : i = l.length := by omega
    rw [List.take_length, stickfullaw21_IntrinsicGrows.l0, if_neg (by omega)]
    obtain ⟨r, q, hr, hq, hf⟩ := minmax_some (l.map hardC) (by simp; omega) (by intro c hc; obtain ⟨z, hz, rfl⟩ := List.mem_map.1 hc; exact hI z hz)
    have hrq : r = q := by
      have : partsL softB (l.map hardC) = partsL nv (l.map hardC) := partsGo_congr _ _ _ _ _ (by intro c hc; obtain ⟨z, hz, rfl⟩ := List.mem_map.1 hc; rfl)
      rw [this, hq] at hr
      exact (Option.some.inj hr).symm
    subst hrq
    have hh : stickfullaw21_head.f = some true := rfl
    rw [hf, Option.bind_some, if_pos h1, if_pos h2, hh]
    have key : ∀ z : Int × Int × Int, z = (if (greatO 0 r).2 = 0 then (if (greatO (greatO 0 r).1 r).2 = 0 then ((greatO 0 r).1, (greatO (greatO 0 r).1 r).1, 0) else (0, 0, (greatO (greatO 0 r).1 r).2)) else (0, 0, (greatO 0 r).2)) → z.2.2 = 0 → z.1 = z.2.1 := by
      intro z hz h0
      by_cases g0 : (greatO 0 r).2 = 0
      · rw [if_pos g0] at hz
        have ht := greatO_top r (greatO 0 r).1 (greatO_ge r 0 g0).2
        rw [ht] at hz
        simp at hz
        rw [hz]
      · rw [if_neg g0] at hz
        rw [hz]
    generalize hz : (if (greatO 0 r).2 = 0 then (if (greatO (greatO 0 r).1 r).2 = 0 then ((greatO 0 r).1, (greatO (greatO 0 r).1 r).1, (0 : Int)) else (0, 0, (greatO (greatO 0 r).1 r).2)) else (0, 0, (greatO 0 r).2)) = z
    have hk2 := key z hz.symm
    have fin : (if z.2.2 = 0 then (if z.1 = z.2.1 then ((some true : Option Bool).bind fun t => some t) else some false) else ((some true : Option Bool).bind fun t => some t)) = some true := by
      by_cases h0 : z.2.2 = 0
      · rw [if_pos h0, if_pos (hk2 h0)]; rfl
      · rw [if_neg h0]; rfl
    by_cases he : e = 0
    · obtain ⟨g1, g2⟩ := h3 he
      rw [if_pos he, if_pos g1, if_pos g2]
      exact fin
    · rw [if_neg he]
      exact fin
  | n + 1, k, i, hi, hn, hk => by
    obtain ⟨k, rfl⟩ : ∃ m, k = m + 1 := ⟨k - 1, by omega⟩
    have hil : i < l.length := by omega
    rw [stickfullaw21_IntrinsicGrows.l0, if_pos (by omega), if_pos (by omega), if_pos (by simp; omega), rd25, wr1 i (by omega)]
    have e1 : l.getD i z25 = l[i] := by rw [List.getD_eq_getElem?_getD, List.getElem?_eq_getElem hil]; rfl
    have ih := l0_grows l hl hI a b c d e h1 h2 h3 n k (i + 1) (by omega) (by omega) (by omega)
    rw [List.take_succ_eq_append_getElem hil, List.map_append] at ih
    rw [e1]
    exact ih
/-- The plain law. -/
theorem pureGrows (l m : List S25) (hI : ∀ c ∈ l, I64 c.f3) (hIm : ∀ c ∈ m, I64 c.f3) : stickfullaw21_IntrinsicGrows.f 500 l m = some true := by
  have hj : ∀ b, (b = false → l.length ≤ 60 ∧ m.length ≤ 60) → stickfullaw21_IntrinsicGrows.j0 500 l m b = some true := by
    intro b hb
    rw [stickfullaw21_IntrinsicGrows.j0]
    cases b with
    | true => rfl
    | false =>
      obtain ⟨hl, hm⟩ := hb rfl
      rw [if_neg (by simp)]
      obtain ⟨r, q, hr, hq, hf⟩ := minmax_some l (by omega) hI
      rw [hf, Option.bind_some]
      have hh : stickfullaw21_head.f = some true := rfl
      by_cases g0 : (greatO 0 r).2 = 0
      case neg => rw [if_neg g0, if_neg g0, hh]; rfl
      rw [if_pos g0]
      by_cases g1 : (greatO (greatO 0 r).1 q).2 = 0
      case neg => rw [if_neg g1, if_neg g1, hh]; rfl
      rw [if_pos g1, if_pos rfl]
      simp only [Option.bind_some]
      rw [if_pos (by simp; omega), if_pos (by simp; omega), if_pos (by simp; omega)]
      have hmore : (([] : List S25) ++ l ++ [(⟨5, 0, 0, 0, false, false⟩ : S25)] ++ m) = l ++ cF :: m := by simp [cF]
      have hmore' : ((([] ++ l) ++ [(⟨5, 0, 0, 0, false, false⟩ : S25)]) ++ m) = l ++ cF :: m := by simp [cF]
      rw [hmore']
      have hIM : ∀ c ∈ l ++ cF :: m, I64 c.f3 := by
        intro c hc
        rcases List.mem_append.1 hc with hc | hc
        · exact hI c hc
        · rcases List.mem_cons.1 hc with rfl | hc
          · unfold cF I64; simp
          · exact hIm c hc
      obtain ⟨r', q', hr', hq', hf'⟩ := minmax_some (l ++ cF :: m) (by simp; omega) hIM
      rw [hf', Option.bind_some]
      have gr := greatO_ge r 0 g0
      have gq := greatO_ge q (greatO 0 r).1 g1
      have hext : ∀ (cut : S25 → Bool), cut cF = false → ∀ rs rs', fitsO l (partsL cut l) = some rs → (∀ x ∈ rs, x.2 = 0) → fitsO (l ++ cF :: m) (partsL cut (l ++ cF :: m)) = some rs' → ∃ t, rs' = rs ++ t := by
        intro cut hc rs rs' h1 h2 h3
        by_cases h0 : 0 < l.length
        · exact parts_grow cut hc l m (by omega) l.length 0 0 (by omega) h0 (Nat.le_refl _) rs rs' h1 h2 h3
        · obtain rfl : l = [] := List.eq_nil_of_length_eq_zero (by omega)
          have : rs = [] := by unfold partsL at h1; rw [partsGo, fitsO] at h1; exact (Option.some.inj h1).symm
          exact ⟨rs', by rw [this]; rfl⟩
      obtain ⟨t, ht⟩ := hext softB rfl r r' hr (fun x hx => (gr.2 x hx).1) hr'
      obtain ⟨u, hu⟩ := hext nv rfl q q' hq (fun x hx => (gq.2 x hx).1) hq'
      refine l0_grows l hl hI _ _ _ _ _ (by exact gr.1) (by exact gq.1) ?_ l.length 499 0 (by omega) (by omega) (by omega)
      intro he
      by_cases k0 : (greatO 0 r').2 = 0
      case neg => rw [if_neg k0] at he; exact absurd he k0
      rw [if_pos k0] at he ⊢
      by_cases k1 : (greatO (greatO 0 r').1 q').2 = 0
      case neg => rw [if_neg k1] at he; exact absurd he k1
      rw [if_pos k1]
      have a1 := greatO_app r t 0 (by rw [← ht]; exact k0)
      rw [← ht] at a1
      have a2 := (greatO_ge t (greatO 0 r).1 (by rw [← a1.2]; exact k0)).1
      rw [← a1.2] at a2
      refine ⟨a2, ?_⟩
      have b1 := greatO_app q u (greatO 0 r').1 (by rw [← hu]; exact k1)
      rw [← hu] at b1
      have b2 := (greatO_ge u _ (by rw [← b1.2]; exact k1)).1
      rw [← b1.2] at b2
      have b3 := (greatO_mono q _ _ a2 g1).2
      exact Int.le_trans b3 b2
  unfold stickfullaw21_IntrinsicGrows.f
  by_cases h1 : (l.length : Int) > 60
  · rw [if_pos h1]; exact hj true (by simp)
  · rw [if_neg h1]
    apply hj
    intro h
    have : ¬ (m.length : Int) > 60 := by simpa using h
    omega
end Go.Proofs.Ytkcmehijmgjgfaa.MIntrinsicGrows
