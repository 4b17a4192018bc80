-- Written by a program of this session for this claim.
import Derived.Test.YtkcmehijmgjgfaaMIntrinsicGrowsx0
import Derived.Test.YtkcmehijmgjgfaaMIntrinsicGrowsx3
import Derived.Test.YtkcmehijmgjgfaaMIntrinsicGrowsx4
namespace Go.Proofs.Ytkcmehijmgjgfaa.MIntrinsicGrows
open Go.RowKit Go.Proofs.YtkcmehijmgjgfaaW.PrintWords Go.Proofs.YtkcmehijmgjgfaaW.PrintLast Go.Proofs.YtkcmehijmgjgfaaW.PrintMore
attribute [local go_sem] max2_int min2_int max_two min_two max_three min_three max_four min_four   -- for this text's walks alone
set_option linter.unusedVariables false
set_option linter.unusedSimpArgs false

attribute [local irreducible] Go.wpStill Go.wpQuiet
/-! ### intrinsic_Pieces: function 29 -/
-- needs func intrinsic.MinMax
section
open Go.Proofs.Ytkcmehijmgjgfaa.It Go.Shelf
attribute [local go_sem] Oper.semAt_some
/-- A box B holds a slice that owns xs, of several cells each, in a block of Og. -/
def CollN {α : Type} (b0 B t e sz : Nat) (Og : Nat → Prop) (enc : α → List Value) (xs : List α) (W : World) : Prop :=
  ∃ v, Boxed W B t v ∧ W.ownsRow b0 e sz v xs.length (xs.flatMap enc) ∧ ∀ g, v.ownBlock = some g → Og g
theorem CollN.lv {α : Type} {b0 b t e sz : Nat} {Og O : Nat → Prop} {enc : α → List Value} {xs : List α} {A B : World} (h : CollN b0 b t e sz Og enc xs A) (hl : Lv O A B) (hb : ¬ O b) (hO : ∀ g, Og g → ¬ O g) : CollN b0 b t e sz Og enc xs B := by
  obtain ⟨v, h1, h2, h3⟩ := h
  exact ⟨v, boxed_lv hl h1 hb, own_lv hl h2 (fun g hg => hO g (h3 g hg)), h3⟩
theorem collN_nil {α : Type} {b0 B t e sz : Nat} {Og : Nat → Prop} {enc : α → List Value} {W : World} (hv : Boxed W B t (.slice none 0 0)) : CollN b0 B t e sz Og enc [] W :=
  ⟨_, hv, World.ownsRow_nil _ _ _ _, fun k hk => by cases hk⟩
theorem collN_appended {α : Type} {W w1 : World} {b0 B t e sz : Nat} {Og Ob : Nat → Prop} {enc : α → List Value} {xs : List α} {x : α} {v v' : Value} {tmp : Obj}
    (hv : Boxed W B t v) (hte : t ≠ e) (hrow : W.ownsRow b0 e sz v xs.length (xs.flatMap enc)) (hO : ∀ g, v.ownBlock = some g → Og g) (hnew : ∀ g, W.heap.size ≤ g → Og g) (hb0 : b0 ≤ W.heap.size) (hB : b0 ≤ B)
    (hown' : w1.ownsRow b0 e sz v' (xs.length + 1) (xs.flatMap enc ++ enc x)) (hgrow : (W.alloc tmp).grownBy w1 v.ownBlock) (hat : v'.ownBlock = v.ownBlock ∨ v'.ownBlock = some (W.alloc tmp).heap.size) (hOb : ∀ g, Og g → Ob g) (hObB : Ob B) :
    CollN b0 B t e sz Og enc (xs ++ [x]) (w1.setCell ⟨B, 0, none⟩ v') ∧ Lv Ob W (w1.setCell ⟨B, 0, none⟩ v') ∧ Below b0 W (w1.setCell ⟨B, 0, none⟩ v') := by
  obtain ⟨hv1, hv2, hr2, _, hb2⟩ := hv.appended hte hrow hb0 hB hown' hgrow
  refine ⟨⟨v', hv2, by simpa using hr2, fun g hg => ?_⟩, ?_, hb2⟩
  · rcases hat with h | h
    · exact hO g (h ▸ hg)
    · rw [h] at hg
      cases hg
      exact hnew _ (by simp)
  · exact ((Lv.alloc Ob W tmp).trans (Lv.grown hgrow (fun k hk => hOb k (hO k hk)))).trans (Lv.setCell _ hObB)
theorem cell_two_new (w : World) (x y : Value) (t : TypeId) : ∀ j u, [x, y][j]? = some u → (w.alloc (.cells #[x, y] t)).cell? ((⟨w.heap.size, 0, none⟩ : Addr).add j) = some u := by
  intro j u hj
  rw [add_plain]
  refine cell_new ?_
  simpa using hj
theorem infoA43 : (Try.prog.info? 43).map (fun i => (i.zero, i.size, i.bytes)) = some (some (.agg #[.int .i64 0, .int .i64 0]), 2, 16) := by kernel_rfl
def encP (p : Nat × Nat) : List Value := [.int .i64 (p.1 : Int), .int .i64 (p.2 : Int)]
def seqT (w : World) (lb : Array Value) (p : Nat × Nat) (b : Nat) : Act :=
  { tmps := #[.slice none 0 0, .func (.func 89) #[] lb, .pointer (some ⟨w.heap.size, 0, none⟩), undef, .slice none 0 0, .pointer (some ⟨b, 0, none⟩), .func (.func 89) #[] lb, .agg #[.int .i64 (p.1 : Int), .int .i64 (p.2 : Int)], undef, undef, undef, undef, undef], defers := [] }
structure SeqA (w : World) (D : Nat) (lb : Array Value) (ps : List (Nat × Nat)) (k : Nat) (a' : Act) (W : World) : Prop where
  ex : ∃ b p, ps[k]? = some p ∧ b ≠ D ∧ b ≠ D + 1 ∧ W.heap[b]? = some (.cells #[.int .i64 (p.1 : Int), .int .i64 (p.2 : Int)] 43 (0, 0)) ∧ a' = seqT w lb p b
structure SeqI (w : World) (D : Nat) (ps : List (Nat × Nat)) (k : Nat) (W : World) : Prop where
  coll : CollN w.heap.size w.heap.size 40 43 2 (fun g => D + 2 ≤ g) encP (ps.take k) W
  below : Below w.heap.size w W

set_option maxRecDepth 100000 in
set_option maxHeartbeats 4000000 in
theorem appendSeq_calls (w : World) (lb : Array Value) (ps : List (Nat × Nat)) (hpl : ps.length < 4398046511104)
    (hseq : ∀ W Oc, Below w.heap.size w W → (∀ i, i < w.heap.size → ¬ Oc i) → Seq 3 Try.prog 89 lb (ps.map encPart') (fun _ => False) Oc W) :
    Calls Try.prog 90 #[.slice none 0 0, .func (.func 89) #[] lb] w fun e w' => ∃ v, e = .returned v ∧ w'.ownsRow w.heap.size 43 2 v ps.length (ps.flatMap encP) ∧ Below w.heap.size w w' := by
  have HS := Aside0.mk hseq
  have HPL := Aside0.mk hpl
  clear hseq hpl
  refine (callsIn_wide (n := 7)).1 (callsIn_of_wp_marks Try.func90 rfl trivial ?_ rfl)
  refine wpIn_wide.2 ?_
  simp only [Try.ntmps90, List.size_toArray, List.length_cons, List.length_nil, Nat.reduceAdd, Nat.reduceSub, Array.replicate_succ, Array.replicate_zero, List.push_toArray, List.append_toArray, List.nil_append, List.cons_append]
  go_wp2
  refine wp_name ?_
  intro W0 hW0
  have hsz : W0.heap.size = w.heap.size + 1 := by rw [hW0]; simp
  have b2 : Boxed W0 w.heap.size 40 (.slice none 0 0) := by rw [hW0]; exact boxed_at rfl
  have hB0 : Below w.heap.size w W0 := by rw [hW0]; exact below_alloc (Below.refl _ _) _
  have hsz1 : W0.heap.size ≤ w.heap.size + 1 := by omega
  have hsz2 : w.heap.size + 1 ≤ W0.heap.size := by omega
  clear hW0 hsz
  apply wp_rangedX (m := 3) (gf := 89) (lb := lb) (by simp [go_sem]) (enters_of Try.func89 (by kernel_rfl) rfl)
    ps encPart' (fun _ _ => rfl) (fun _ => False) (fun i => i = w.heap.size ∨ W0.heap.size + 2 ≤ i) ⟨by omega, by omega⟩ (fun _ h => h.elim)
    (HS.out W0 _ hB0 (by intro i hi; omega))
    (SeqI w W0.heap.size ps) (fun _ _ _ => False) ?hI ?hIx ?h0 (SeqA w W0.heap.size lb ps) ?hAx ?assign ?body ?done ?stop
  case hI =>
    rintro k A B ⟨hC, hB⟩ hl
    exact ⟨hC.lv hl (by rintro (h | h | h) <;> omega) (fun g hg => by rintro (h | h | h) <;> omega), hB.trans (hl.below hB.size (fun i hi => by rintro (h | h | h) <;> omega))⟩
  case hIx => intro c k A B h _; exact h
  case h0 => exact ⟨collN_nil b2, hB0⟩
  case hAx =>
    rintro k a' A B ⟨b, p, hp, h2, h3, h4, h5⟩ hl
    exact ⟨b, p, hp, h2, h3, hl.heap h4 (by omega), h5⟩
  case assign =>
    intro l k hk W K hWl hI hK
    have HK := Aside0.mk hK
    clear hK
    obtain ⟨p, hp⟩ : ∃ p, p = ps[k] := ⟨_, rfl⟩
    have HP := Aside0.mk hp
    rw [← hp]
    clear hp
    unfold encPart'
    gi_wp2
    obtain ⟨hC, hB⟩ := hI
    refine HK.out _ _ (Lv.alloc _ _ _) ⟨hC.lv (O := fun _ => False) (Lv.alloc _ _ _) (fun h => h) (fun _ _ h => h), below_alloc hB _⟩ ⟨W.heap.size, p, ?_, by omega, by omega, World.alloc_heap_new _ _, rfl⟩
    rw [HP.out]; exact List.getElem?_eq_getElem hk
  case body =>
    rintro l k hk a' W hD ⟨rL, hL⟩ ⟨⟨v, bv, hrow, hOg⟩, hB⟩ ⟨b, p, hp, hb2, hb3, hbx, rfl⟩
    have hW2 : W0.heap.size + 1 < W.heap.size := (Array.getElem?_eq_some_iff.1 hL).1
    have hp' : ps[k] = p := by rw [List.getElem?_eq_getElem hk] at hp; exact Option.some.inj hp
    have HP := Aside0.mk hp'
    have l6 : w.heap.size < W.heap.size := by omega
    obtain ⟨ys, hys⟩ : ∃ ys, ys = ps.take k := ⟨_, rfl⟩
    rw [← hys] at hrow
    have hlk : ys.length = k := by rw [hys]; simp; omega
    have HYS := Aside0.mk hys
    have HLK := Aside0.mk hlk
    have hk2 : k < 4398046511104 := by have := HPL.out; omega
    clear hys hlk hp hp' hD hL
    have gv := bv.cell
    have x0 := heap_cellAt (i := 0) hbx
    have x1 := heap_cellAt (i := 1) hbx
    simp at x0 x1
    obtain ⟨i0, hi, hz0, hz1, hz2⟩ := info_parts infoA43
    unfold seqT
    gi_wp2_with (gi_at_builtin; refine wpListIn_append_own_at _ rfl _ _ 40 rfl w.heap.size 43 i0 (.agg #[.int .i64 0, .int .i64 0]) 2 16 Try.underlying40 hi hz0 hz1 hz2 rfl (by decide) _ _ _ rfl (hrow.alloc _) ⟨W.heap.size, 0, none⟩ 1 1 [.int .i64 (p.1 : Int), .int .i64 (p.2 : Int)] rfl rfl (cell_two_new _ _ _ _) (by simp [Value.oneCell']) (by rw [HLK.out]; simp only [maxLen]; omega) (by rw [HLK.out]; omega) (by simp; omega) ?_; intro v' w1 hown' hgrow _ hat; obtain ⟨g', cap', rfl⟩ := ownsRow_succ hown'; have HAP := Aside0.mk (collN_appended (x := p) (Ob := fun i => i = w.heap.size ∨ W0.heap.size + 2 ≤ i) bv (by decide) hrow hOg (fun g hg => by omega) (by omega) (by omega) hown' hgrow hat (fun g hg => .inr hg) (.inl rfl)); have HG := Aside0.mk (bv.not_row (by decide) hrow); have bv1 := (bv.alloc _).kept hgrow HG.out; have hc1 := bv1.cell; have hf1 := bv1.frozen; clear hown' hgrow hat)
    refine ⟨HAP.out.2.1, ?_, hB.trans HAP.out.2.2⟩
    have h := HAP.out.1
    rw [List.take_succ_eq_append_getElem hk, HP.out]
    obtain rfl := HYS.out
    exact h
  case done =>
    rintro W ⟨⟨v, bv, hrow, hOg⟩, hB⟩ hD
    rw [List.take_length] at hrow
    have hDl : W0.heap.size < W.heap.size := (Array.getElem?_eq_some_iff.1 hD).1
    have gv := bv.cell
    go_wp2
    refine ⟨by simp, .inl ⟨W0.heap.size, _, rfl, run_takeDeferred hD, ?_⟩⟩
    have hL4 := Lv.putObj (O := fun i => i = W0.heap.size) (A := W) (.deferred none) rfl
    refine ⟨v, by simp [results, Try.f90, go_sem], _, rfl, own_lv hL4 hrow (fun g hg => by have := hOg g hg; omega), hB.trans (hL4.below (by omega) (fun i hi => by omega))⟩
  case stop => intro c k W _ h; exact h.elim
theorem collect_calls (w : World) (lb : Array Value) (ps : List (Nat × Nat)) (hpl : ps.length < 4398046511104)
    (hseq : ∀ W Oc, Below w.heap.size w W → (∀ i, i < w.heap.size → ¬ Oc i) → Seq 3 Try.prog 89 lb (ps.map encPart') (fun _ => False) Oc W) :
    Calls Try.prog 58 #[.func (.func 89) #[] lb] w fun e w' => ∃ v, e = .returned v ∧ w'.ownsRow w.heap.size 43 2 v ps.length (ps.flatMap encP) ∧ Below w.heap.size w w' := by
  have HC := Aside0.mk (appendSeq_calls w lb ps hpl hseq)
  clear hseq
  go_enter Try.func58, Try.ntmps58
  go_wp2_with fail
  refine HC.out.mono ?_
  rintro e w1 ⟨v, rfl, h⟩
  have H := Aside0.mk h
  clear h
  go_wp2
  go_ret
  exact ⟨v, rfl, H.out⟩
theorem partsGo_length (cut : S25 → Bool) : ∀ (l : List S25) (s i : Nat), (partsGo cut s i l).length ≤ l.length
  | [], s, i => by simp [partsGo]
  | [c], s, i => by simp [partsGo]
  | c :: d :: l, s, i => by
    rw [partsGo]
    have h1 := partsGo_length cut (d :: l) (i + 1) (i + 1)
    have h2 := partsGo_length cut (d :: l) s (i + 1)
    simp only [List.length_cons] at h1 h2 ⊢
    split
    · simp only [List.length_cons]; omega
    · omega
theorem partsL_length (cut : S25 → Bool) (l : List S25) : (partsL cut l).length ≤ l.length := partsGo_length cut l 0 0
theorem ownsRow_lower {W : World} {b b' : Nat} {e : TypeId} {size n : Nat} {v : Value} {xs : List Value} (h : W.ownsRow b e size v n xs) (hb : b' ≤ b) : W.ownsRow b' e size v n xs := by
  obtain ⟨h1, h2⟩ := h
  refine ⟨h1, ?_⟩
  rcases h2 with h2 | ⟨g, cap, cur, rfl, hg, r⟩
  · exact .inl h2
  · exact .inr ⟨g, cap, cur, rfl, by omega, r⟩
/-- Both lists of cuts: what is laid, collected. -/
theorem cuts_calls (w W : World) (A0 : Option Addr) (c0 : Nat) (l0 : List S25) (hC0 : Kd.C k25 w A0 l0.length l0) (hb : Below w.heap.size w W) (hlen : l0.length < 4398046511104)
    (fid : Nat) (cut : S25 → Bool) (eg : ∀ args w, (callFunc fid args).run Try.prog w = .ok (.enter fid args) w)
    (hp : ∀ c W, Calls Try.prog fid (#[encC c] ++ #[]) W fun e W' => e = .returned (.bool (cut c)) ∧ Below W.heap.size W W') :
    Calls Try.prog 58 #[.func (.func 89) #[] #[.pointer (some ⟨W.heap.size, 0, none⟩), .pointer (some ⟨W.heap.size + 1, 0, none⟩)]]
      ((W.alloc (.cells #[.slice A0 l0.length c0] 22)).alloc (.cells #[.func (.func fid) #[] #[]] 94)) fun e w' => ∃ v, e = .returned v ∧ w'.ownsRow w.heap.size 43 2 v (partsL cut l0).length ((partsL cut l0).flatMap encP) ∧ Below w.heap.size w w' := by
  obtain ⟨W2, hW2⟩ : ∃ W2, W2 = (W.alloc (.cells #[.slice A0 l0.length c0] 22)).alloc (.cells #[.func (.func fid) #[] #[]] 94) := ⟨_, rfl⟩
  have b1 : Boxed W2 W.heap.size 22 (.slice A0 l0.length c0) := by rw [hW2]; exact (boxed_at rfl).alloc _
  have b2 : Boxed W2 (W.heap.size + 1) 94 (.func (.func fid) #[] #[]) := by rw [hW2]; exact boxed_at (by simp)
  have hsz : W2.heap.size = W.heap.size + 2 := by rw [hW2]; simp
  have hB : Below w.heap.size w W2 := by rw [hW2]; exact below_alloc (below_alloc hb _) _
  have hbs := hb.size
  rw [← hW2]
  have hS := partsL_S cut l0
  have hk : ∀ W', Below W2.heap.size W2 W' → Below w.heap.size w W' := fun W' h => below_step hB h
  refine (collect_calls W2 _ (partsL cut l0) (Nat.lt_of_le_of_lt (partsL_length cut l0) hlen) ?_).mono ?_
  · intro W' Oc h hO
    have q := fun {b t v} (hx : Boxed W2 b t v) => boxed_lv (Lv.of_below (O := fun _ => False) h) hx (fun h => h)
    exact parts_seq 2 w W' (hk W' h) A0 c0 l0 fid #[] hC0 W.heap.size (W.heap.size + 1) (q b1) (q b2) Oc (hO _ (by omega)) (hO _ (by omega)) (fun i hi => hO i (by omega)) cut eg hp _ hS (by omega)
  · rintro e w' ⟨v, rfl, h1, h2⟩
    exact ⟨v, rfl, ownsRow_lower h1 (by omega), hk w' h2⟩
theorem lines_calls (A0 : Option Addr) (c0 : Nat) (l0 : List S25) (w : World) (hC0 : Kd.C k25 w A0 l0.length l0) (hlen : l0.length < 4398046511104) :
    Calls Try.prog 27 #[.slice A0 l0.length c0] w fun e w' => ∃ v, e = .returned v ∧ w'.ownsRow w.heap.size 43 2 v (partsL (fun _ => false) l0).length ((partsL (fun _ => false) l0).flatMap encP) ∧ Below w.heap.size w w' := by
  have H1 := Aside0.mk (cuts_calls w w A0 c0 l0 hC0 (Below.refl _ _) hlen 56 (fun _ => false) (enters_of Try.func56 (by kernel_rfl) rfl) never_calls)
  go_enter Try.func27, Try.ntmps27
  go_wp2_with fail
  refine (parts_calls A0 l0.length c0 56 #[] _).mono ?_
  rintro e w3 ⟨rfl, rfl⟩
  go_wp2_with fail
  refine H1.out.mono ?_
  rintro e w4 ⟨v, rfl, h⟩
  have H := Aside0.mk h
  clear h
  go_wp2
  go_ret
  exact ⟨v, rfl, H.out⟩
theorem pieces_calls (A0 : Option Addr) (c0 : Nat) (l0 : List S25) (w : World) (hC0 : Kd.C k25 w A0 l0.length l0) (hlen : l0.length < 4398046511104) :
    Calls Try.prog 29 #[.slice A0 l0.length c0] w fun e w' => ∃ v, e = .returned v ∧ w'.ownsRow w.heap.size 43 2 v (partsL softB l0).length ((partsL softB l0).flatMap encP) ∧ Below w.heap.size w w' := by
  have H1 := Aside0.mk (cuts_calls w w A0 c0 l0 hC0 (Below.refl _ _) hlen 55 softB (enters_of Try.func55 (by kernel_rfl) rfl) soft_calls)
  go_enter Try.func29, Try.ntmps29
  go_wp2_with fail
  refine (parts_calls A0 l0.length c0 55 #[] _).mono ?_
  rintro e w3 ⟨rfl, rfl⟩
  go_wp2_with fail
  refine H1.out.mono ?_
  rintro e w4 ⟨v, rfl, h⟩
  have H := Aside0.mk h
  clear h
  go_wp2
  go_ret
  exact ⟨v, rfl, H.out⟩
def toS43 (p : Nat × Nat) : S43 := ⟨p.1, p.2⟩
theorem reps_cons {α : Type} {R : α → List Value → Prop} {size : Nat} {ps : List α} {cs c : List Value} {p : α} (h : Reps R size ps cs) (hp : R p c) (hc : c.length = size) : Reps R size (p :: ps) (c ++ cs) := by
  refine ⟨by rw [List.length_append, h.1, hc, List.length_cons, Nat.add_mul, Nat.one_mul, Nat.add_comm], fun j q hq => ?_⟩
  cases j with
  | zero =>
    simp at hq
    subst hq
    rw [Nat.zero_mul, List.drop_zero, ← hc, List.take_left]
    exact hp
  | succ j =>
    simp at hq
    have := h.2 j q hq
    rw [Nat.add_mul, Nat.one_mul, Nat.add_comm, ← List.drop_drop, ← hc, List.drop_left, hc]
    exact this
theorem reps43 (w : World) (base : Nat) (ok : Nat → Prop) : ∀ ps : List (Nat × Nat), Reps (k43.M w base ok) 2 (ps.map toS43) (ps.flatMap encP)
  | [] => Reps.none _ _
  | p :: ps => by
    rw [List.map_cons, List.flatMap_cons]
    exact reps_cons (reps43 w base ok ps) (k43_mkM w base ok (toS43 p)) rfl
theorem R43 {w : World} {base : Nat} {v : Value} {ps : List (Nat × Nat)} (h : w.ownsRow base 43 2 v ps.length (ps.flatMap encP)) : Kd.R k43 43 w base (fun _ => True) v (ps.map toS43) :=
  ⟨fun _ _ => trivial, ps.flatMap encP, by rw [List.length_map]; exact h, reps43 _ _ _ ps⟩
def intrinsic_Pieces.f (l : List S25) : Option (List S43) := if l.length < 4398046511104 then some ((partsL softB l).map toS43) else none
theorem intrinsic_Pieces.calls (A0 : Option Addr) (c0 : Nat) (l0 : List S25) (r : List S43) (w : World) (hr0 : Kd.C k25 w A0 l0.length l0) (hc0 : l0.length ≤ c0) (h : intrinsic_Pieces.f l0 = some r) :
    Calls Try.prog 29 #[.slice A0 l0.length c0] w fun e w' => ∃ v0_ : Value, e = .returned v0_ ∧ Kd.R k43 43 w' w.heap.size (fun _ => True) v0_ r ∧ Below w.heap.size w w' := by
  unfold intrinsic_Pieces.f at h
  by_cases hl : l0.length < 4398046511104
  · rw [if_pos hl] at h
    obtain rfl := Option.some.inj h
    refine (pieces_calls A0 c0 l0 w hr0 hl).mono ?_
    rintro e w' ⟨v, rfl, h1, h2⟩
    exact ⟨v, rfl, R43 h1, h2⟩
  · rw [if_neg hl] at h; cases h
end

/-! ### stickfullaw21_head: function 22 -/
-- needs func intrinsic.MinMax intrinsic.Pieces stickfulref21.Same
section
open Go.Proofs.Ytkcmehijmgjgfaa.It Go.Shelf
def enc25 (c : S25) : List Value := [.int .u8 c.f0, .int .i64 c.f1, .int .i64 c.f2, .int .i64 c.f3, .bool c.f4, .bool c.f5]
theorem lit_C_of {α : Type} (d : Kd α) (enc : α → List Value) (W : World) (t : TypeId) (hsz : ∀ x, (enc x).length = d.sz) (hmk : ∀ W x, d.K W x (enc x)) (xs : List α) (hm : xs.length ≤ 9223372036854775807) : Kd.C d (W.alloc (.cells (xs.flatMap enc).toArray t)) (some ⟨W.heap.size, 0, none⟩) xs.length xs := by
  refine ⟨rfl, hm, fun hz => ⟨_, rfl, fun j p hj => ⟨enc p, hsz p, hmk _ p, fun i u hu => ?_⟩⟩⟩
  rw [add_plain]
  refine cell_new ?_
  simp only [List.getElem?_toArray]
  clear hm hz
  induction xs generalizing j with
  | nil => simp at hj
  | cons x xs ih =>
    rw [List.flatMap_cons]
    cases j with
    | zero =>
      simp at hj
      subst hj
      rw [Nat.zero_mul, Nat.zero_add, List.getElem?_append_left (List.getElem?_eq_some_iff.1 hu).1]
      exact hu
    | succ j =>
      simp at hj
      have e : (j + 1) * d.sz + i = (enc x).length + (j * d.sz + i) := by rw [hsz, Nat.add_mul]; omega
      rw [e, List.getElem?_append_right (by omega), Nat.add_sub_cancel_left]
      exact ih j hj
theorem lit25 (W : World) (xs : List S25) (hm : xs.length ≤ 9223372036854775807) : Kd.C k25 (W.alloc (.cells (xs.flatMap enc25).toArray 25)) (some ⟨W.heap.size, 0, none⟩) xs.length xs :=
  lit_C_of k25 enc25 W 25 (fun _ => rfl) (fun W x => k25_mk W x) xs hm
theorem lit25' (W : World) (b : Nat) (xs : List S25) (hb : W.heap.size = b) (hm : xs.length ≤ 9223372036854775807) : Kd.C k25 (W.alloc (.cells (xs.flatMap enc25).toArray 25)) (some ⟨b, 0, none⟩) xs.length xs := by
  subst hb; exact lit25 W xs hm
theorem calls_name {P : Program} {f : FuncId} {args : Array Value} {w : World} {Q : Ending → World → Prop} (h : ∀ W, W = w → Calls P f args W Q) : Calls P f args w Q := h w rfl
def enc43 (c : S43) : List Value := [.int .i64 c.f0, .int .i64 c.f1]
theorem lit43 (W : World) (xs : List S43) (hm : xs.length ≤ 9223372036854775807) : Kd.C k43 (W.alloc (.cells (xs.flatMap enc43).toArray 43)) (some ⟨W.heap.size, 0, none⟩) xs.length xs :=
  lit_C_of k43 enc43 W 43 (fun _ => rfl) (fun W x => k43_mk W x) xs hm
def cellC : S25 := ⟨0, 0, 0, 5, false, false⟩
def cellS : S25 := ⟨1, 0, 0, 5, false, false⟩
def cellSoft : S25 := ⟨0, 0, 0, 5, true, false⟩
def cellForced : S25 := ⟨5, 0, 0, 0, false, false⟩
def cellTab : S25 := ⟨4, 0, 0, -1, false, false⟩
theorem headv1 : intrinsic_MinMax.f [cellC, cellC, cellS, cellSoft] = some (10, 20, 0) := by decide +kernel
theorem headv2 : intrinsic_MinMax.f [cellC, cellS, cellForced, cellSoft, cellC] = some (10, 10, 0) := by decide +kernel
theorem headv3 : intrinsic_MinMax.f [cellS, cellS] = some (0, 0, 0) := by decide +kernel
theorem headv4 : intrinsic_MinMax.f [cellTab] = some (0, 0, 2) := by decide +kernel
theorem headv5 : intrinsic_Pieces.f [cellC, cellC, cellS, cellSoft] = some [⟨0, 3⟩, ⟨3, 4⟩] := by rfl
theorem headv6 : intrinsic_Pieces.f [cellC, cellS, cellForced, cellSoft, cellC] = some [⟨0, 3⟩, ⟨3, 5⟩] := by rfl
def stickfullaw21_head.f : Option Bool := some true
set_option maxRecDepth 100000 in
set_option maxHeartbeats 4000000 in
theorem stickfullaw21_head.calls (r : Bool) (w : World) (h : stickfullaw21_head.f = some r) :
    Calls Try.prog 22 #[] w fun e w' => e = .returned (.bool r) ∧ Below w.heap.size w w' := by
  cases Option.some.inj h
  go_enter Try.func22, Try.ntmps22
  go_wp2_with fail
  refine calls_name ?_
  intro W0 hW0
  have cA : Kd.C k25 W0 (some ⟨w.heap.size + 1 + 1 + 1 + 1, 0, none⟩) 4 [cellC, cellC, cellS, cellSoft] := by
    rw [hW0]
    exact Kd.C_alloc (lit25' _ _ [cellC, cellC, cellS, cellSoft] (by simp) (by decide)) _
  have cB : Kd.C k25 W0 (some ⟨w.heap.size + 1 + 1 + 1 + 1 + 1, 0, none⟩) 5 [cellC, cellS, cellForced, cellSoft, cellC] := by
    rw [hW0]
    exact lit25' _ _ [cellC, cellS, cellForced, cellSoft, cellC] (by simp) (by decide)
  have hs : W0.heap[w.heap.size + 1]? = some (.cells #[.int .u8 1, .int .i64 0, .int .i64 0, .int .i64 5, .bool false, .bool false] 25 (0, 0)) := by
    rw [hW0]
    have q : ∀ (V : World) (o : Obj), V.heap.size = w.heap.size + 1 → (V.alloc o).heap[w.heap.size + 1]? = some o := fun V o h => by rw [← h]; exact World.alloc_heap_new V o
    exact (Below.heap_alloc _ _ _ (by simp; try omega)).trans ((Below.heap_alloc _ _ _ (by simp; try omega)).trans ((Below.heap_alloc _ _ _ (by simp; try omega)).trans ((Below.heap_alloc _ _ _ (by simp; try omega)).trans (q _ _ (by simp)))))
  have hB0 : Below w.heap.size w W0 := by
    rw [hW0]
    exact below_alloc (below_alloc (below_alloc (below_alloc (below_alloc (below_alloc (Below.refl _ _) _) _) _) _) _) _
  clear hW0
  refine (intrinsic_MinMax.calls _ 4 [cellC, cellC, cellS, cellSoft] 10 20 0 _ cA (by decide) headv1).mono ?_
  rintro e w1 ⟨rfl, hb1⟩
  replace cA := Kd.C_below cA hb1
  replace cB := Kd.C_below cB hb1
  replace hs := (Lv.of_below (O := fun _ => False) hb1).heap hs (fun h => h)
  replace hB0 := below_step hB0 hb1
  clear hb1
  go_wp2_with fail
  refine (intrinsic_MinMax.calls _ 5 [cellC, cellS, cellForced, cellSoft, cellC] 10 10 0 _ cB (by decide) headv2).mono ?_
  rintro e w2 ⟨rfl, hb2⟩
  replace cA := Kd.C_below cA hb2
  replace cB := Kd.C_below cB hb2
  replace hs := (Lv.of_below (O := fun _ => False) hb2).heap hs (fun h => h)
  replace hB0 := below_step hB0 hb2
  clear hb2
  have x0 := heap_cellAt (i := 0) hs
  have x1 := heap_cellAt (i := 1) hs
  have x2 := heap_cellAt (i := 2) hs
  have x3 := heap_cellAt (i := 3) hs
  have x4 := heap_cellAt (i := 4) hs
  have x5 := heap_cellAt (i := 5) hs
  simp at x0 x1 x2 x3 x4 x5
  go_wp2_with fail
  refine (intrinsic_MinMax.calls _ 2 [cellS, cellS] 0 0 0 _ (lit25' _ _ [cellS, cellS] rfl (by decide)) (by decide) headv3).mono ?_
  rintro e w3 ⟨rfl, hb3⟩
  replace hb3 := below_step (below_alloc (Below.refl _ _) _) hb3
  replace cA := Kd.C_below cA hb3
  replace cB := Kd.C_below cB hb3
  replace hB0 := below_step hB0 hb3
  clear hb3 x0 x1 x2 x3 x4 x5 hs
  go_wp2_with fail
  refine (intrinsic_MinMax.calls _ 1 [cellTab] 0 0 2 _ (lit25' _ _ [cellTab] rfl (by decide)) (by decide) headv4).mono ?_
  rintro e w4 ⟨rfl, hb4⟩
  replace hb4 := below_step (below_alloc (Below.refl _ _) _) hb4
  replace cA := Kd.C_below cA hb4
  replace cB := Kd.C_below cB hb4
  replace hB0 := below_step hB0 hb4
  clear hb4
  go_wp2_with fail
  refine (intrinsic_Pieces.calls _ 4 [cellC, cellC, cellS, cellSoft] _ _ cA (by decide) headv5).mono ?_
  rintro e w5 ⟨v, rfl, hR, hb5⟩
  obtain ⟨A5, c5, rfl, hle5, hC5⟩ := Kd.R_reads hR
  replace cB := Kd.C_below cB hb5
  replace hB0 := below_step hB0 hb5
  clear hb5 hR
  go_wp2_with fail
  refine (stickfulref21_Same.calls A5 c5 [⟨0, 3⟩, ⟨3, 4⟩] (some ⟨_, 0, none⟩) 2 [⟨0, 3⟩, ⟨3, 4⟩] true _ (Kd.C_alloc hC5 _) hle5 (lit43 _ [⟨0, 3⟩, ⟨3, 4⟩] (by decide)) (by decide) rfl).mono ?_
  rintro e w6 ⟨rfl, hb6⟩
  replace hb6 := below_step (below_alloc (Below.refl _ _) _) hb6
  replace cB := Kd.C_below cB hb6
  replace hB0 := below_step hB0 hb6
  clear hb6 hC5
  go_wp2_with fail
  refine (intrinsic_Pieces.calls _ 5 [cellC, cellS, cellForced, cellSoft, cellC] _ _ cB (by decide) headv6).mono ?_
  rintro e w7 ⟨v, rfl, hR, hb7⟩
  obtain ⟨A7, c7, rfl, hle7, hC7⟩ := Kd.R_reads hR
  replace hB0 := below_step hB0 hb7
  clear hb7 hR
  go_wp2_with fail
  refine (stickfulref21_Same.calls A7 c7 [⟨0, 3⟩, ⟨3, 5⟩] (some ⟨_, 0, none⟩) 2 [⟨0, 3⟩, ⟨3, 5⟩] true _ (Kd.C_alloc hC7 _) hle7 (lit43 _ [⟨0, 3⟩, ⟨3, 5⟩] (by decide)) (by decide) rfl).mono ?_
  rintro e w8 ⟨rfl, hb8⟩
  replace hb8 := below_step (below_alloc (Below.refl _ _) _) hb8
  replace hB0 := below_step hB0 hb8
  clear hb8 hC7 cA cB
  go_wp2
  go_ret
  exact ⟨rfl, hB0⟩
end

/-! ### stickfullaw21_IntrinsicGrows: function 4 -/
mutual
def stickfullaw21_IntrinsicGrows.j0 : Nat → List (S25) → List (S25) → Bool → Option (Bool)
  | 0, _, _, _ => none
  | k + 1, x0, x1, x25 => if x25 = true then ((stickfullaw21_head.f).bind fun t133 => (some t133)) else ((intrinsic_MinMax.f x0).bind fun bt134 => (if bt134.2.2 = 0 then ((some (([] : List (S25)) : List (S25))).bind fun y138 => (if y138.length + x0.length < 3518437208883 then ((some (y138 ++ x0 : List (S25))).bind fun y141 => (if y141.length < 3518437208883 then ((some (y141 ++ [(⟨5, 0, 0, 0, false, false⟩ : S25)] : List (S25))).bind fun y144 => (if y144.length + x1.length < 3518437208883 then ((intrinsic_MinMax.f (y144 ++ x1)).bind fun bt150 => (stickfullaw21_IntrinsicGrows.l0 k x0 bt134.1 bt134.2.1 bt150.1 bt150.2.1 bt150.2.2 ([] : List (S25)) 0)) else (none))) else (none))) else (none))) else (if bt134.1 = 0 then (if bt134.2.1 = 0 then ((stickfullaw21_head.f).bind fun t137 => (some t137)) else (some false)) else (some false))))
def stickfullaw21_IntrinsicGrows.l0 : Nat → List (S25) → Int → Int → Int → Int → Int → List (S25) → Int → Option (Bool)
  | 0, _, _, _, _, _, _, _, _ => none
  | k + 1, x0, x5, x6, x9, x10, x11, x12, x13 => if x13 < (x0.length : Int) then (if 0 ≤ x13 then (if x12.length < 3518437208883 then (stickfullaw21_IntrinsicGrows.l0 k x0 x5 x6 x9 x10 x11 (x12 ++ [(⟨(rd_T25 x0 x13).f0, (rd_T25 x0 x13).f1, (rd_T25 x0 x13).f2, (rd_T25 x0 x13).f3, false, false⟩ : S25)]) (wrap64 (x13 + 1))) else (none)) else (none)) else ((intrinsic_MinMax.f x12).bind fun bt158 => (if x5 ≥ 0 then (if x5 ≤ x6 then (if x11 = 0 then (if x9 ≥ x5 then (if x10 ≥ x6 then (if bt158.2.2 = 0 then (if bt158.1 = bt158.2.1 then ((stickfullaw21_head.f).bind fun t161 => (some t161)) else (some false)) else ((stickfullaw21_head.f).bind fun t162 => (some t162))) else (some false)) else (some false)) else (if bt158.2.2 = 0 then (if bt158.1 = bt158.2.1 then ((stickfullaw21_head.f).bind fun t163 => (some t163)) else (some false)) else ((stickfullaw21_head.f).bind fun t164 => (some t164)))) else (some false)) else (some false)))
end
def stickfullaw21_IntrinsicGrows.f (k : Nat) (l0 : List (S25)) (l1 : List (S25)) : Option (Bool) := if (l0.length : Int) > 60 then (stickfullaw21_IntrinsicGrows.j0 k l0 l1 true) else (stickfullaw21_IntrinsicGrows.j0 k l0 l1 (decide ((l1.length : Int) > 60)))
theorem stickfullaw21_IntrinsicGrows.mono_l : ∀ k, (∀ y0 y1 y2, LeO (stickfullaw21_IntrinsicGrows.j0 k y0 y1 y2) (stickfullaw21_IntrinsicGrows.j0 (k + 1) y0 y1 y2)) ∧ (∀ y0 y1 y2 y3 y4 y5 y6 y7, LeO (stickfullaw21_IntrinsicGrows.l0 k y0 y1 y2 y3 y4 y5 y6 y7) (stickfullaw21_IntrinsicGrows.l0 (k + 1) y0 y1 y2 y3 y4 y5 y6 y7))
  | 0 => ⟨fun _ _ _ r h => by simp [stickfullaw21_IntrinsicGrows.j0] at h, fun _ _ _ _ _ _ _ _ r h => by simp [stickfullaw21_IntrinsicGrows.l0] at h⟩
  | k + 1 => by
    obtain ⟨ih0, ih1⟩ := stickfullaw21_IntrinsicGrows.mono_l k
    refine ⟨?_, ?_⟩
    · intro y0 y1 y2
      unfold stickfullaw21_IntrinsicGrows.j0
      repeat' first
      | (with_reducible exact ih0 _ _ _)
      | (with_reducible exact ih1 _ _ _ _ _ _ _ _)
      | (with_reducible exact LeO.refl _)
      | (with_reducible exact LeO.none _)
      | (with_reducible refine LeO.ite ?_ ?_)
      | (with_reducible refine LeO.bind ?_ (fun _ => ?_))
      | exact ih0 _ _ _
      | exact ih1 _ _ _ _ _ _ _ _
      | exact LeO.none _
      | refine LeO.ite ?_ ?_
      | refine LeO.bind ?_ (fun _ => ?_)
    · intro y0 y1 y2 y3 y4 y5 y6 y7
      unfold stickfullaw21_IntrinsicGrows.l0
      repeat' first
      | (with_reducible exact ih0 _ _ _)
      | (with_reducible exact ih1 _ _ _ _ _ _ _ _)
      | (with_reducible exact LeO.refl _)
      | (with_reducible exact LeO.none _)
      | (with_reducible refine LeO.ite ?_ ?_)
      | (with_reducible refine LeO.bind ?_ (fun _ => ?_))
      | exact ih0 _ _ _
      | exact ih1 _ _ _ _ _ _ _ _
      | exact LeO.none _
      | refine LeO.ite ?_ ?_
      | refine LeO.bind ?_ (fun _ => ?_)
theorem stickfullaw21_IntrinsicGrows.mono : ∀ a0 a1 k, LeO (stickfullaw21_IntrinsicGrows.f k a0 a1) (stickfullaw21_IntrinsicGrows.f (k + 1) a0 a1) := by
  intro a0 a1 k
  obtain ⟨ih0, ih1⟩ := stickfullaw21_IntrinsicGrows.mono_l k
  unfold stickfullaw21_IntrinsicGrows.f
  repeat' first
      | (with_reducible exact ih0 _ _ _)
      | (with_reducible exact ih1 _ _ _ _ _ _ _ _)
      | (with_reducible exact LeO.refl _)
      | (with_reducible exact LeO.none _)
      | (with_reducible refine LeO.ite ?_ ?_)
      | (with_reducible refine LeO.bind ?_ (fun _ => ?_))
      | exact ih0 _ _ _
      | exact ih1 _ _ _ _ _ _ _ _
      | exact LeO.none _
      | refine LeO.ite ?_ ?_
      | refine LeO.bind ?_ (fun _ => ?_)
set_option maxHeartbeats 8000000 in
set_option maxRecDepth 100000 in
theorem stickfullaw21_IntrinsicGrows.calls (k : Nat) (A0 : Option Addr) (c0 : Nat) (l0 : List (S25)) (A1 : Option Addr) (c1 : Nat) (l1 : List (S25)) (_ : Bool) (w : World) (hr0 : Kd.C k25 w A0 l0.length l0) (hc0 : l0.length ≤ c0) (hr1 : Kd.C k25 w A1 l1.length l1) (hc1 : l1.length ≤ c1) (h : stickfullaw21_IntrinsicGrows.f k l0 l1 = some true) :
    Calls Try.prog 4 #[.slice A0 l0.length c0, .slice A1 l1.length c1] w fun e w' => e = .returned (.bool true) ∧ Below w.heap.size w w' := by
  have hu25 := Try.underlying25
  have HR0 := Aside0.mk hr0
  have HC0 := Aside0.mk hc0
  clear hr0 hc0
  have HR1 := Aside0.mk hr1
  have HC1 := Aside0.mk hc1
  clear hr1 hc1
  have HB := Aside0.mk (Below.refl w.heap.size w)
  have H : (if (l0.length : Int) > 60 then (stickfullaw21_IntrinsicGrows.j0 k l0 l1 true) else (stickfullaw21_IntrinsicGrows.j0 k l0 l1 (decide ((l1.length : Int) > 60)))) = some true := h
  clear h
  have HC3 := Aside0.mk H
  clear H
  go_enter Try.func4, Try.ntmps4
  go_upto_region 1 with (fail)
  go_cut [25] (fun v25 wc => ∃ (kq : Nat) (x25_2 : Bool), v25 = .bool x25_2 ∧ Aside0 (stickfullaw21_IntrinsicGrows.j0 kq l0 l1 x25_2 = some true) ∧ Aside0 (kq ≤ k) ∧ Aside0 (Below w.heap.size w wc))
  case first =>
    have H := HC3.out
    clear HC3
    by_cases c4 : (l0.length : Int) > 60
    · rw [if_pos c4] at H
      have c4b0 : decide (60 < (l0.length : Int)) = true := decide_eq_true c4
      have c4b1 : decide (60 < l0.length) = true := decide_eq_true (by omega)
      clear c4
      (first | rw [c4b0] | (simp only [i64_w, i32_w]; rw [c4b0]) | skip)
      have H' := Aside0.mk H
      clear H
      go_wp2
      go_meet
      case rel => exact ⟨_, (true), (by first | rfl | (simp; done) | (simp [*]; done)), H', ⟨by first | omega | exact Nat.le_refl _⟩, ⟨by repeat (first | (with_reducible first | exact HB.out | apply below_alloc | apply pw_below_drewN | apply below_drew1) | exact HB.out)⟩⟩
    · rw [if_neg c4] at H
      have c4b0 : decide (60 < (l0.length : Int)) = false := decide_eq_false c4
      have c4b1 : decide (60 < l0.length) = false := decide_eq_false (by omega)
      clear c4
      (first | rw [c4b0] | (simp only [i64_w, i32_w]; rw [c4b0]) | skip)
      have H' := Aside0.mk H
      clear H
      go_wp2
      go_meet
      case rel => exact ⟨_, (decide ((l1.length : Int) > 60)), (by first | rfl | (simp; done) | (simp [*]; done)), H', ⟨by first | omega | exact Nat.le_refl _⟩, ⟨by repeat (first | (with_reducible first | exact HB.out | apply below_alloc | apply pw_below_drewN | apply below_drew1) | exact HB.out)⟩⟩
  case rest =>
    clear HC3
    try clear c1
    try clear p2
    try clear c4
    try clear c4b0
    try clear c4b1
    obtain ⟨kq, x25_2, rfl, HA, HJ2, HB⟩ := hcut
    cases kq with
    | zero => exact absurd HA.out (by simp [stickfullaw21_IntrinsicGrows.j0])
    | succ kj2 =>
      have H := HA.out
      clear HA
      simp only [stickfullaw21_IntrinsicGrows.j0] at H
      by_cases c5 : x25_2 = true
      · subst c5
        have H1 : ((stickfullaw21_head.f).bind fun t133 => (some t133)) = some true := by rw [if_pos rfl] at H; exact H
        clear H
        have H := H1
        clear H1
        replace H := Option.bind_eq_some_iff.mp H
        obtain ⟨t133, A60, H⟩ := H
        replace H : (some t133) = some true := H
        have A6 := Aside0.mk A60
        clear A60
        have hrt := Option.some.inj H
        first | exact absurd hrt (by decide) | skip
        all_goals (
          go_wp2_with (first | ((with_reducible refine gate_callee (f := 22) rfl ?_); refine goesL_ (some 26) rfl rfl Try.func22 (by kernel_rfl) rfl #[] rfl (by (try simp only [List.map_toArray, List.map_cons, List.map_nil]); first | done | rfl | (simp only [List.length_drop, List.length_take]; rfl)) ?_; (with_reducible refine (stickfullaw21_head.calls  t133 _ A6.out).mono ?_); rintro e w7 ⟨rfl, hb⟩; refine ⟨_, rfl, ?_⟩; have n0_ := Aside0.mk (below_step (by repeat (first | (with_reducible first | exact HB.out | apply below_alloc | apply pw_below_drewN | apply below_drew1) | exact HB.out)) hb); clear HB; have HB := n0_; clear n0_; (try clear hb); (try clear hb2); (try clear hk); (try clear hi)))
          go_ret
          try subst hrt
          exact ⟨by first | rfl | (simp [errW_none, errW_some] <;> rfl) | (simp [*, errW_none, errW_some] <;> rfl), by repeat (first | (with_reducible first | exact HB.out | apply below_alloc | apply pw_below_drewN | apply below_drew1) | exact HB.out)⟩)
      · replace c5 := Bool.eq_false_iff.mpr c5
        subst c5
        have H1 : ((intrinsic_MinMax.f l0).bind fun bt134 => (if bt134.2.2 = 0 then ((some (([] : List (S25)) : List (S25))).bind fun y138 => (if y138.length + l0.length < 3518437208883 then ((some (y138 ++ l0 : List (S25))).bind fun y141 => (if y141.length < 3518437208883 then ((some (y141 ++ [(⟨5, 0, 0, 0, false, false⟩ : S25)] : List (S25))).bind fun y144 => (if y144.length + l1.length < 3518437208883 then ((intrinsic_MinMax.f (y144 ++ l1)).bind fun bt150 => (stickfullaw21_IntrinsicGrows.l0 kj2 l0 bt134.1 bt134.2.1 bt150.1 bt150.2.1 bt150.2.2 ([] : List (S25)) 0)) else (none))) else (none))) else (none))) else (if bt134.1 = 0 then (if bt134.2.1 = 0 then ((stickfullaw21_head.f).bind fun t137 => (some t137)) else (some false)) else (some false)))) = some true := by rw [if_neg (show ¬ (false = true) by decide)] at H; exact H
        clear H
        have H := H1
        clear H1
        replace H := Option.bind_eq_some_iff.mp H
        obtain ⟨⟨t134, t135, t136⟩, A80, H⟩ := H
        replace H : (if t136 = 0 then ((some (([] : List (S25)) : List (S25))).bind fun y138 => (if y138.length + l0.length < 3518437208883 then ((some (y138 ++ l0 : List (S25))).bind fun y141 => (if y141.length < 3518437208883 then ((some (y141 ++ [(⟨5, 0, 0, 0, false, false⟩ : S25)] : List (S25))).bind fun y144 => (if y144.length + l1.length < 3518437208883 then ((intrinsic_MinMax.f (y144 ++ l1)).bind fun bt150 => (stickfullaw21_IntrinsicGrows.l0 kj2 l0 t134 t135 bt150.1 bt150.2.1 bt150.2.2 ([] : List (S25)) 0)) else (none))) else (none))) else (none))) else (if t134 = 0 then (if t135 = 0 then ((stickfullaw21_head.f).bind fun t137 => (some t137)) else (some false)) else (some false))) = some true := H
        have A8 := Aside0.mk A80
        clear A80
        by_cases c9 : t136 = 0
        · rw [if_pos c9] at H
          have c9b0 : (t136 == 0) = true := beq_iff_eq.mpr c9
          have c9b1 : (t136 != 0) = false := bne_eq_false_iff_eq.mpr c9
          clear c9
          obtain ⟨y138, hy138⟩ : ∃ y_ : List (S25), y_ = (([] : List (S25))) := ⟨_, rfl⟩
          replace H : (if y138.length + l0.length < 3518437208883 then ((some (y138 ++ l0 : List (S25))).bind fun y141 => (if y141.length < 3518437208883 then ((some (y141 ++ [(⟨5, 0, 0, 0, false, false⟩ : S25)] : List (S25))).bind fun y144 => (if y144.length + l1.length < 3518437208883 then ((intrinsic_MinMax.f (y144 ++ l1)).bind fun bt150 => (stickfullaw21_IntrinsicGrows.l0 kj2 l0 t134 t135 bt150.1 bt150.2.1 bt150.2.2 ([] : List (S25)) 0)) else (none))) else (none))) else (none)) = some true := by first | (rw [hy138]; with_reducible exact H) | (have H2_ := (Option.bind_some _ _).symm.trans H; rw [hy138]; with_reducible exact H2_) | (have H2_ := (Option.bind_some _ _).symm.trans H; with_reducible exact H2_) | with_reducible exact H | (rw [hy138]; exact H) | exact H
          have Ny138 := Aside0.mk hy138
          clear hy138
          by_cases c10 : y138.length + l0.length < 3518437208883
          · rw [if_pos c10] at H
            have LMc10 := Aside0.mk c10
            clear c10
            obtain ⟨y141, hy141⟩ : ∃ y_ : List (S25), y_ = (y138 ++ l0) := ⟨_, rfl⟩
            replace H : (if y141.length < 3518437208883 then ((some (y141 ++ [(⟨5, 0, 0, 0, false, false⟩ : S25)] : List (S25))).bind fun y144 => (if y144.length + l1.length < 3518437208883 then ((intrinsic_MinMax.f (y144 ++ l1)).bind fun bt150 => (stickfullaw21_IntrinsicGrows.l0 kj2 l0 t134 t135 bt150.1 bt150.2.1 bt150.2.2 ([] : List (S25)) 0)) else (none))) else (none)) = some true := by first | (rw [hy141]; with_reducible exact H) | (have H2_ := (Option.bind_some _ _).symm.trans H; rw [hy141]; with_reducible exact H2_) | (have H2_ := (Option.bind_some _ _).symm.trans H; with_reducible exact H2_) | with_reducible exact H | (rw [hy141]; exact H) | exact H
            have Ny141 := Aside0.mk hy141
            clear hy141
            by_cases c11 : y141.length < 3518437208883
            · rw [if_pos c11] at H
              have LMc11 := Aside0.mk c11
              clear c11
              obtain ⟨y144, hy144⟩ : ∃ y_ : List (S25), y_ = (y141 ++ [(⟨5, 0, 0, 0, false, false⟩ : S25)]) := ⟨_, rfl⟩
              replace H : (if y144.length + l1.length < 3518437208883 then ((intrinsic_MinMax.f (y144 ++ l1)).bind fun bt150 => (stickfullaw21_IntrinsicGrows.l0 kj2 l0 t134 t135 bt150.1 bt150.2.1 bt150.2.2 ([] : List (S25)) 0)) else (none)) = some true := by first | (rw [hy144]; with_reducible exact H) | (have H2_ := (Option.bind_some _ _).symm.trans H; rw [hy144]; with_reducible exact H2_) | (have H2_ := (Option.bind_some _ _).symm.trans H; with_reducible exact H2_) | with_reducible exact H | (rw [hy144]; exact H) | exact H
              have Ny144 := Aside0.mk hy144
              clear hy144
              by_cases c12 : y144.length + l1.length < 3518437208883
              · rw [if_pos c12] at H
                have LMc12 := Aside0.mk c12
                clear c12
                obtain ⟨y147, hy147⟩ : ∃ y_ : List (S25), y_ = (y144 ++ l1) := ⟨_, rfl⟩
                replace H : ((intrinsic_MinMax.f y147).bind fun bt150 => (stickfullaw21_IntrinsicGrows.l0 kj2 l0 t134 t135 bt150.1 bt150.2.1 bt150.2.2 ([] : List (S25)) 0)) = some true := by first | (rw [hy147]; with_reducible exact H) | (have H2_ := (Option.bind_some _ _).symm.trans H; rw [hy147]; with_reducible exact H2_) | (have H2_ := (Option.bind_some _ _).symm.trans H; with_reducible exact H2_) | with_reducible exact H | (rw [hy147]; exact H) | exact H
                have Ny147 := Aside0.mk hy147
                clear hy147
                replace H := Option.bind_eq_some_iff.mp H
                obtain ⟨⟨t150, t151, t152⟩, A130, H⟩ := H
                replace H : (stickfullaw21_IntrinsicGrows.l0 kj2 l0 t134 t135 t150 t151 t152 ([] : List (S25)) 0) = some true := H
                have A13 := Aside0.mk A130
                clear A130
                have H' := Aside0.mk H
                clear H
                go_wp2_with (first | ((with_reducible refine gate_callee (f := 23) rfl ?_); refine goesL_ (some 29) rfl rfl Try.func23 (by kernel_rfl) rfl #[.slice A0 l0.length c0] rfl (by (try simp only [List.map_toArray, List.map_cons, List.map_nil]); first | done | rfl | (simp only [List.length_drop, List.length_take]; rfl)) ?_; (with_reducible refine (intrinsic_MinMax.calls _ _ l0 t134 t135 t136 _ ?side1 ?side2 A8.out).mono ?_); (case side1 => repeat (first | exact (Kd.C_below HR0.out HB.out) | (with_reducible refine Kd.C_alloc ?_ _) | (with_reducible refine Kd.C_drewN ?_ _) | (with_reducible refine Kd.C_drew ?_))); (case side2 => exact HC0.out); rintro e w14 ⟨rfl, hb⟩; refine ⟨_, rfl, ?_⟩; have n0_ := Aside0.mk (below_step (by repeat (first | (with_reducible first | exact HB.out | apply below_alloc | apply pw_below_drewN | apply below_drew1) | exact HB.out)) hb); clear HB; have HB := n0_; clear n0_; (try clear hb); (try clear hb2); (try clear hk); (try clear hi)) | ((with_reducible refine gate_dst (N := 44) rfl ?_); (try (refine gate_guard (by rfl) ?_; dsimp only)); refine Kd.R_lit k25 _ 25 ?hg (N := 44) ?hd (xs := ([] : List (S25))) (inner := []) (ok := fun _ => True) (okp := fun _ => True) ?hr ?hp (fun _ hk => hk) trivial (Below.refl _ _) (Nat.le_refl _) (by simp) ?_; (case hd => rfl); (case hg => rfl); (case hr => first | (go_simp; done) | (go_simp; rfl)); (case hp => exact (Reps.none _ _)); intro v139 w15 ho16 hb hg_ hnew_; clear hg_ hnew_; (first | rw [← Ny138.out] at ho16 | (simp only [Int.reduceToNat] at ho16; rw [← Ny138.out] at ho16)); have n0_ := Aside0.mk (Kd.R_lower ho16 (below_size (by repeat (first | (with_reducible first | exact HB.out | apply below_alloc | apply pw_below_drewN | apply below_drew1) | exact HB.out)))); have n1_ := Aside0.mk (below_step (by repeat (first | (with_reducible first | exact HB.out | apply below_alloc | apply pw_below_drewN | apply below_drew1) | exact HB.out)) hb); clear HB; have HO140 := n0_; have HB := n1_; clear n0_ n1_; clear hb ho16) | ((with_reducible refine gate_builtin (b := .append) (xs := #[.tmp 44, .tmp 45]) rfl ?_); (try (refine gate_guard (by rfl) ?_; dsimp only)); at_builtin; refine Kd.R_append_rows k25 (w0 := w) w.heap.size rfl (.tmp 44) (.tmp 45) 22 25 (.agg #[(.int .u8 0), (.int .i64 0), (.int .i64 0), (.int .i64 0), (.bool false), (.bool false)]) 40 rfl Try.underlying22 info25 rfl (by decide) (by omega) v139 y138 l0 _ _ _ (fun _ => True) (fun _ => False) rfl rfl ?aO ?aR (fun _ _ h => h) (fun _ h => h.elim) ?aF ?aB ?aS ?aL ?_; (case aR => repeat (first | exact (Kd.C_below HR0.out HB.out) | (with_reducible refine Kd.C_alloc ?_ _) | (with_reducible refine Kd.C_drewN ?_ _) | (with_reducible refine Kd.C_drew ?_))); (case aB => exact (by repeat (first | (with_reducible first | exact HB.out | apply below_alloc | apply pw_below_drewN | apply below_drew1) | exact HB.out))); (case aF => exact (fun _ _ => trivial)); (case aO => exact (by (with_reducible repeat (first | apply Kd.R_alloc | apply Kd.R_drewN | apply Kd.R_drew)); exact HO140.out)); (case aS => exact (below_size (by repeat (first | (with_reducible first | exact HB.out | apply below_alloc | apply pw_below_drewN | apply below_drew1) | exact HB.out)))); (case aL => have := LMc10.out; omega); intro v142 w17 ho hb hg hat; rw [← Ny141.out] at ho; have n0_ := Aside0.mk (hb); have n1_ := Aside0.mk (ho); clear HB; clear HO140; have HB := n0_; have HO143 := n1_; clear n0_ n1_; clear ho hb hg hat) | ((with_reducible refine gate_builtin (b := .append) (xs := #[.tmp 46, .tmp 48]) rfl ?_); (try (refine gate_guard (by rfl) ?_; dsimp only)); at_builtin; refine Kd.R_append k25 (w0 := w) w.heap.size rfl (.tmp 46) (.tmp 48) 22 25 (.agg #[(.int .u8 0), (.int .i64 0), (.int .i64 0), (.int .i64 0), (.bool false), (.bool false)]) 40 rfl Try.underlying22 info25 rfl (by decide) (by omega) v142 y141 (⟨5, 0, 0, 0, false, false⟩ : S25) [.int .u8 5, .int .i64 0, .int .i64 0, .int .i64 0, .bool false, .bool false] (fun _ => True) (fun _ => False) rfl rfl ?aP (fun _ hk => hk.elim) ?aF ?aO ?aB ?aS ?aL ?_; (case aP => exact k25_mkM _ _ _ (⟨5, 0, 0, 0, false, false⟩ : S25)); (case aB => exact (by repeat (first | (with_reducible first | exact HB.out | apply below_alloc | apply pw_below_drewN | apply below_drew1) | exact HB.out))); (case aF => exact (fun _ _ => trivial)); (case aO => exact (by (with_reducible repeat (first | apply Kd.R_alloc | apply Kd.R_drewN | apply Kd.R_drew)); exact HO143.out)); (case aS => exact (below_size (by repeat (first | (with_reducible first | exact HB.out | apply below_alloc | apply pw_below_drewN | apply below_drew1) | exact HB.out)))); (case aL => have := LMc11.out; omega); intro v145 w18 ho hb hg hat; rw [← Ny144.out] at ho; have n0_ := Aside0.mk (hb); have n1_ := Aside0.mk (ho); clear HB; clear HO143; have HB := n0_; have HO146 := n1_; clear n0_ n1_; clear ho hb hg hat) | ((with_reducible refine gate_builtin (b := .append) (xs := #[.tmp 49, .tmp 50]) rfl ?_); (try (refine gate_guard (by rfl) ?_; dsimp only)); at_builtin; refine Kd.R_append_rows k25 (w0 := w) w.heap.size rfl (.tmp 49) (.tmp 50) 22 25 (.agg #[(.int .u8 0), (.int .i64 0), (.int .i64 0), (.int .i64 0), (.bool false), (.bool false)]) 40 rfl Try.underlying22 info25 rfl (by decide) (by omega) v145 y144 l1 _ _ _ (fun _ => True) (fun _ => False) rfl rfl ?aO ?aR (fun _ _ h => h) (fun _ h => h.elim) ?aF ?aB ?aS ?aL ?_; (case aR => repeat (first | exact (Kd.C_below HR1.out HB.out) | (with_reducible refine Kd.C_alloc ?_ _) | (with_reducible refine Kd.C_drewN ?_ _) | (with_reducible refine Kd.C_drew ?_))); (case aB => exact (by repeat (first | (with_reducible first | exact HB.out | apply below_alloc | apply pw_below_drewN | apply below_drew1) | exact HB.out))); (case aF => exact (fun _ _ => trivial)); (case aO => exact (by (with_reducible repeat (first | apply Kd.R_alloc | apply Kd.R_drewN | apply Kd.R_drew)); exact HO146.out)); (case aS => exact (below_size (by repeat (first | (with_reducible first | exact HB.out | apply below_alloc | apply pw_below_drewN | apply below_drew1) | exact HB.out)))); (case aL => have := LMc12.out; omega); intro v148 w19 ho hb hg hat; rw [← Ny147.out] at ho; have n0_ := Aside0.mk (hb); have n1_ := Aside0.mk (ho); clear HB; clear HO146; have HB := n0_; have HO149 := n1_; clear n0_ n1_; clear ho hb hg hat; obtain ⟨Ao20, co20, eo20⟩ := Kd.R_slice HO149.out; subst eo20) | ((with_reducible refine gate_callee (f := 23) rfl ?_); refine goesL_ (some 54) rfl rfl Try.func23 (by kernel_rfl) rfl #[.slice Ao20 y147.length co20] rfl (by (try simp only [List.map_toArray, List.map_cons, List.map_nil]); first | done | rfl | (simp only [List.length_drop, List.length_take]; rfl)) ?_; (with_reducible refine (intrinsic_MinMax.calls _ _ y147 t150 t151 t152 _ ?side1 ?side2 A13.out).mono ?_); (case side1 => repeat (first | exact (Kd.R_reads' HO149.out).2.2 | (with_reducible refine Kd.C_alloc ?_ _) | (with_reducible refine Kd.C_drewN ?_ _) | (with_reducible refine Kd.C_drew ?_))); (case side2 => exact (Kd.R_reads' HO149.out).2.1); rintro e w21 ⟨rfl, hb⟩; refine ⟨_, rfl, ?_⟩; have n0_ := Aside0.mk (Kd.R_below (by (with_reducible repeat (first | apply Kd.R_alloc | apply Kd.R_drewN | apply Kd.R_drew)); exact HO149.out) hb); have n1_ := Aside0.mk (below_step (by repeat (first | (with_reducible first | exact HB.out | apply below_alloc | apply pw_below_drewN | apply below_drew1) | exact HB.out)) hb); clear HO149; clear HB; have HO149 := n0_; have HB := n1_; clear n0_ n1_; (try clear hb); (try clear hb2); (try clear hk); (try clear hi)))
                go_loopg [12, 13] kj2 (fun kq v12 v13 w' => ∃ (x12_2 : List (S25)) (x13_2 : Int), v13 = .int .i64 x13_2 ∧ Aside0 (stickfullaw21_IntrinsicGrows.l0 kq l0 t134 t135 t150 t151 t152 x12_2 x13_2 = some true) ∧ Aside0 (kq ≤ kj2) ∧ Aside0 (Kd.R k25 25 w' w.heap.size (fun _ => True) v12 x12_2) ∧ Aside0 (Below w.heap.size w w'))
                case atStart => exact ⟨(([] : List (S25))), (0), (by first | rfl | (simp; done) | (simp [*]; done)), H', ⟨Nat.le_refl _⟩, ⟨by first | exact Kd.R_nil _ _ _ _ _ | exact Kd.N_nil _ _ _ _ _ | exact Kd.V_nil _ _ _ _ _ | exact Kd.Q_nil _ _ _ _ _ | exact Kd.S_nil _ _ _ _ _⟩, ⟨by repeat (first | (with_reducible first | exact HB.out | apply below_alloc | apply pw_below_drewN | apply below_drew1) | exact HB.out)⟩⟩
                case round =>
                  clear H'
                  try clear c1
                  try clear c2
                  try clear p2
                  try clear c4
                  try clear c4b0
                  try clear c4b1
                  try clear c5
                  try clear c9
                  try clear c9b0
                  try clear c9b1
                  try clear c10
                  try clear c11
                  try clear c12
                  try clear p2
                  obtain ⟨x12_2, x13_2, rfl, HA, HK2, HO_12, HB⟩ := hrel
                  cases gk with
                  | zero => exact absurd HA.out (by simp [stickfullaw21_IntrinsicGrows.l0])
                  | succ k2 =>
                    have H := HA.out
                    clear HA
                    simp only [stickfullaw21_IntrinsicGrows.l0] at H
                    by_cases c22 : x13_2 < (l0.length : Int)
                    · rw [if_pos c22] at H
                      have c22b0 : decide (x13_2 < (l0.length : Int)) = true := decide_eq_true c22
                      clear c22
                      by_cases c23 : 0 ≤ x13_2
                      · rw [if_pos c23] at H
                        have c23b0 : decide (0 ≤ x13_2) = true := decide_eq_true c23
                        clear c23
                        by_cases c24 : x12_2.length < 3518437208883
                        · rw [if_pos c24] at H
                          have LMc24 := Aside0.mk c24
                          clear c24
                          obtain ⟨y155, hy155⟩ : ∃ y_ : List (S25), y_ = (x12_2 ++ [(⟨(rd_T25 l0 x13_2).f0, (rd_T25 l0 x13_2).f1, (rd_T25 l0 x13_2).f2, (rd_T25 l0 x13_2).f3, false, false⟩ : S25)]) := ⟨_, rfl⟩
                          replace H : (stickfullaw21_IntrinsicGrows.l0 k2 l0 t134 t135 t150 t151 t152 y155 (wrap64 (x13_2 + 1))) = some true := by first | (rw [hy155]; with_reducible exact H) | (have H2_ := (Option.bind_some _ _).symm.trans H; rw [hy155]; with_reducible exact H2_) | (have H2_ := (Option.bind_some _ _).symm.trans H; with_reducible exact H2_) | with_reducible exact H | (rw [hy155]; exact H) | exact H
                          have Ny155 := Aside0.mk hy155
                          clear hy155
                          have H' := Aside0.mk H
                          clear H
                          have p153 : 0 ≤ (x13_2 : Int) := of_decide_eq_true (by first | (with_reducible assumption) | assumption)
                          have q153 : x13_2 < (l0.length : Int) := of_decide_eq_true (by first | (with_reducible assumption) | assumption)
                          obtain ⟨ad153, e153, hx153_0, hx153_1, hx153_2, hx153_3, hx153_4, hx153_5⟩ := at_T25 HR0.out x13_2 p153 q153
                          cases e153
                          replace hx153_0 := (HB.out.cell (World.block_lt_of_cell? w _ hx153_0)).trans hx153_0
                          replace hx153_1 := (HB.out.cell (World.block_lt_of_cell? w _ hx153_1)).trans hx153_1
                          replace hx153_2 := (HB.out.cell (World.block_lt_of_cell? w _ hx153_2)).trans hx153_2
                          replace hx153_3 := (HB.out.cell (World.block_lt_of_cell? w _ hx153_3)).trans hx153_3
                          replace hx153_4 := (HB.out.cell (World.block_lt_of_cell? w _ hx153_4)).trans hx153_4
                          replace hx153_5 := (HB.out.cell (World.block_lt_of_cell? w _ hx153_5)).trans hx153_5
                          replace p153 := eq_true p153
                          replace q153 := eq_true q153
                          obtain ⟨q, hq⟩ : ∃ q, q = rd_T25 l0 x13_2 := ⟨_, rfl⟩
                          rw [← hq] at hx153_0 hx153_1 hx153_2 hx153_3 hx153_4 hx153_5
                          have HQ := Aside0.mk hq
                          clear hq
                          go_wp2_with (at_builtin; refine Kd.R_append k25 (w0 := w) w.heap.size rfl (.tmp 70) (.tmp 72) 22 25 (.agg #[.int .u8 0, .int .i64 0, .int .i64 0, .int .i64 0, .bool false, .bool false]) 40 rfl Try.underlying22 info25 rfl (by decide) (by omega) u12 x12_2 (⟨q.f0, q.f1, q.f2, q.f3, false, false⟩ : S25) [.int .u8 q.f0, .int .i64 q.f1, .int .i64 q.f2, .int .i64 q.f3, .bool false, .bool false] (fun _ => True) (fun _ => False) rfl (by first | (go_simp; done) | (go_simp; rfl)) (k25_mkM _ _ _ (⟨q.f0, q.f1, q.f2, q.f3, false, false⟩ : S25)) (fun _ hk => hk.elim) (fun _ _ => trivial) (Kd.R_alloc HO_12.out _) (below_alloc HB.out _) (by have := below_size HB.out; simp; omega) (by have := LMc24.out; omega) ?_; intro v1 w1 hR1 hB1 _ _; rw [HQ.out, ← Ny155.out] at hR1; have HO157 := Aside0.mk hR1; have HB1 := Aside0.mk hB1; clear hR1 hB1)
                          go_roundg k2
                          case measure => have := HJ2.out; have := HK2.out; omega
                          case rel => exact ⟨(y155), (wrap64 (x13_2 + 1)), (by first | rfl | (simp; done) | (simp [*]; done)), H', ⟨by have := HJ2.out; have := HK2.out; omega⟩, HO157, HB1⟩
                        · rw [if_neg c24] at H
                          exact absurd H (by simp)
                      · rw [if_neg c23] at H
                        exact absurd H (by simp)
                    · rw [if_neg c22] at H
                      have c22b0 : decide (x13_2 < (l0.length : Int)) = false := decide_eq_false c22
                      clear c22
                      replace H := Option.bind_eq_some_iff.mp H
                      obtain ⟨⟨t158, t159, t160⟩, A280, H⟩ := H
                      replace H : (if t134 ≥ 0 then (if t134 ≤ t135 then (if t152 = 0 then (if t150 ≥ t134 then (if t151 ≥ t135 then (if t160 = 0 then (if t158 = t159 then ((stickfullaw21_head.f).bind fun t161 => (some t161)) else (some false)) else ((stickfullaw21_head.f).bind fun t162 => (some t162))) else (some false)) else (some false)) else (if t160 = 0 then (if t158 = t159 then ((stickfullaw21_head.f).bind fun t163 => (some t163)) else (some false)) else ((stickfullaw21_head.f).bind fun t164 => (some t164)))) else (some false)) else (some false)) = some true := H
                      have A28 := Aside0.mk A280
                      clear A280
                      by_cases c29 : t134 ≥ 0
                      · rw [if_pos c29] at H
                        have c29b0 : decide (0 ≤ t134) = true := decide_eq_true c29
                        clear c29
                        by_cases c30 : t134 ≤ t135
                        · rw [if_pos c30] at H
                          have c30b0 : decide (t134 ≤ t135) = true := decide_eq_true c30
                          clear c30
                          by_cases c31 : t152 = 0
                          · rw [if_pos c31] at H
                            have c31b0 : (t152 == 0) = true := beq_iff_eq.mpr c31
                            have c31b1 : (t152 != 0) = false := bne_eq_false_iff_eq.mpr c31
                            clear c31
                            by_cases c32 : t150 ≥ t134
                            · rw [if_pos c32] at H
                              have c32b0 : decide (t134 ≤ t150) = true := decide_eq_true c32
                              clear c32
                              by_cases c33 : t151 ≥ t135
                              · rw [if_pos c33] at H
                                have c33b0 : decide (t135 ≤ t151) = true := decide_eq_true c33
                                clear c33
                                by_cases c34 : t160 = 0
                                · rw [if_pos c34] at H
                                  have c34b0 : (t160 == 0) = true := beq_iff_eq.mpr c34
                                  have c34b1 : (t160 != 0) = false := bne_eq_false_iff_eq.mpr c34
                                  clear c34
                                  by_cases c35 : t158 = t159
                                  · rw [if_pos c35] at H
                                    have c35b0 : (t158 == t159) = true := beq_iff_eq.mpr c35
                                    have c35b1 : (t158 != t159) = false := bne_eq_false_iff_eq.mpr c35
                                    clear c35
                                    replace H := Option.bind_eq_some_iff.mp H
                                    obtain ⟨t161, A360, H⟩ := H
                                    replace H : (some t161) = some true := H
                                    have A36 := Aside0.mk A360
                                    clear A360
                                    have hrt := Option.some.inj H
                                    first | exact absurd hrt (by decide) | skip
                                    all_goals (
                                      obtain ⟨Ao37, co37, eo37⟩ := Kd.R_slice HO_12.out
                                      subst eo37
                                      go_wp2_with (first | ((with_reducible refine gate_callee (f := 23) rfl ?_); refine goesL_ (some 76) rfl rfl Try.func23 (by kernel_rfl) rfl #[.slice Ao37 x12_2.length co37] rfl (by (try simp only [List.map_toArray, List.map_cons, List.map_nil]); first | done | rfl | (simp only [List.length_drop, List.length_take]; rfl)) ?_; (with_reducible refine (intrinsic_MinMax.calls _ _ x12_2 t158 t159 t160 _ ?side1 ?side2 A28.out).mono ?_); (case side1 => repeat (first | exact (Kd.R_reads' HO_12.out).2.2 | (with_reducible refine Kd.C_alloc ?_ _) | (with_reducible refine Kd.C_drewN ?_ _) | (with_reducible refine Kd.C_drew ?_))); (case side2 => exact (Kd.R_reads' HO_12.out).2.1); rintro e w38 ⟨rfl, hb⟩; refine ⟨_, rfl, ?_⟩; have n0_ := Aside0.mk (Kd.R_below (by (with_reducible repeat (first | apply Kd.R_alloc | apply Kd.R_drewN | apply Kd.R_drew)); exact HO_12.out) hb); have n1_ := Aside0.mk (below_step (by repeat (first | (with_reducible first | exact HB.out | apply below_alloc | apply pw_below_drewN | apply below_drew1) | exact HB.out)) hb); clear HO_12; clear HB; have HO_12 := n0_; have HB := n1_; clear n0_ n1_; (try clear hb); (try clear hb2); (try clear hk); (try clear hi)) | (go_at_call 22; (with_reducible refine (stickfullaw21_head.calls  t161 _ A36.out).mono ?_); rintro e w39 ⟨rfl, hb⟩; have n0_ := Aside0.mk (Kd.R_below (by (with_reducible repeat (first | apply Kd.R_alloc | apply Kd.R_drewN | apply Kd.R_drew)); exact HO_12.out) hb); have n1_ := Aside0.mk (below_step (by repeat (first | (with_reducible first | exact HB.out | apply below_alloc | apply pw_below_drewN | apply below_drew1) | exact HB.out)) hb); clear HO_12; clear HB; have HO_12 := n0_; have HB := n1_; clear n0_ n1_; (try clear hb); (try clear hb2); (try clear hk); (try clear hi)))
                                      go_ret
                                      try subst hrt
                                      exact ⟨by first | rfl | (simp [errW_none, errW_some] <;> rfl) | (simp [*, errW_none, errW_some] <;> rfl), by repeat (first | (with_reducible first | exact HB.out | apply below_alloc | apply pw_below_drewN | apply below_drew1) | exact HB.out)⟩)
                                  · rw [if_neg c35] at H
                                    have c35b0 : (t158 == t159) = false := beq_eq_false_iff_ne.mpr c35
                                    have c35b1 : (t158 != t159) = true := bne_iff_ne.mpr c35
                                    have hrt := Option.some.inj H
                                    first | exact absurd hrt (by decide) | skip
                                    all_goals (
                                      obtain ⟨Ao40, co40, eo40⟩ := Kd.R_slice HO_12.out
                                      subst eo40
                                      go_wp2_with (first | ((with_reducible refine gate_callee (f := 23) rfl ?_); refine goesL_ (some 76) rfl rfl Try.func23 (by kernel_rfl) rfl #[.slice Ao40 x12_2.length co40] rfl (by (try simp only [List.map_toArray, List.map_cons, List.map_nil]); first | done | rfl | (simp only [List.length_drop, List.length_take]; rfl)) ?_; (with_reducible refine (intrinsic_MinMax.calls _ _ x12_2 t158 t159 t160 _ ?side1 ?side2 A28.out).mono ?_); (case side1 => repeat (first | exact (Kd.R_reads' HO_12.out).2.2 | (with_reducible refine Kd.C_alloc ?_ _) | (with_reducible refine Kd.C_drewN ?_ _) | (with_reducible refine Kd.C_drew ?_))); (case side2 => exact (Kd.R_reads' HO_12.out).2.1); rintro e w41 ⟨rfl, hb⟩; refine ⟨_, rfl, ?_⟩; have n0_ := Aside0.mk (Kd.R_below (by (with_reducible repeat (first | apply Kd.R_alloc | apply Kd.R_drewN | apply Kd.R_drew)); exact HO_12.out) hb); have n1_ := Aside0.mk (below_step (by repeat (first | (with_reducible first | exact HB.out | apply below_alloc | apply pw_below_drewN | apply below_drew1) | exact HB.out)) hb); clear HO_12; clear HB; have HO_12 := n0_; have HB := n1_; clear n0_ n1_; (try clear hb); (try clear hb2); (try clear hk); (try clear hi)))
                                      go_ret
                                      try subst hrt
                                      exact ⟨by first | rfl | (simp [errW_none, errW_some] <;> rfl) | (simp [*, errW_none, errW_some] <;> rfl), by repeat (first | (with_reducible first | exact HB.out | apply below_alloc | apply pw_below_drewN | apply below_drew1) | exact HB.out)⟩)
                                · rw [if_neg c34] at H
                                  have c34b0 : (t160 == 0) = false := beq_eq_false_iff_ne.mpr c34
                                  have c34b1 : (t160 != 0) = true := bne_iff_ne.mpr c34
                                  replace H := Option.bind_eq_some_iff.mp H
                                  obtain ⟨t162, A420, H⟩ := H
                                  replace H : (some t162) = some true := H
                                  have A42 := Aside0.mk A420
                                  clear A420
                                  have hrt := Option.some.inj H
                                  first | exact absurd hrt (by decide) | skip
                                  all_goals (
                                    obtain ⟨Ao43, co43, eo43⟩ := Kd.R_slice HO_12.out
                                    subst eo43
                                    go_wp2_with (first | ((with_reducible refine gate_callee (f := 23) rfl ?_); refine goesL_ (some 76) rfl rfl Try.func23 (by kernel_rfl) rfl #[.slice Ao43 x12_2.length co43] rfl (by (try simp only [List.map_toArray, List.map_cons, List.map_nil]); first | done | rfl | (simp only [List.length_drop, List.length_take]; rfl)) ?_; (with_reducible refine (intrinsic_MinMax.calls _ _ x12_2 t158 t159 t160 _ ?side1 ?side2 A28.out).mono ?_); (case side1 => repeat (first | exact (Kd.R_reads' HO_12.out).2.2 | (with_reducible refine Kd.C_alloc ?_ _) | (with_reducible refine Kd.C_drewN ?_ _) | (with_reducible refine Kd.C_drew ?_))); (case side2 => exact (Kd.R_reads' HO_12.out).2.1); rintro e w44 ⟨rfl, hb⟩; refine ⟨_, rfl, ?_⟩; have n0_ := Aside0.mk (Kd.R_below (by (with_reducible repeat (first | apply Kd.R_alloc | apply Kd.R_drewN | apply Kd.R_drew)); exact HO_12.out) hb); have n1_ := Aside0.mk (below_step (by repeat (first | (with_reducible first | exact HB.out | apply below_alloc | apply pw_below_drewN | apply below_drew1) | exact HB.out)) hb); clear HO_12; clear HB; have HO_12 := n0_; have HB := n1_; clear n0_ n1_; (try clear hb); (try clear hb2); (try clear hk); (try clear hi)) | (go_at_call 22; (with_reducible refine (stickfullaw21_head.calls  t162 _ A42.out).mono ?_); rintro e w45 ⟨rfl, hb⟩; have n0_ := Aside0.mk (Kd.R_below (by (with_reducible repeat (first | apply Kd.R_alloc | apply Kd.R_drewN | apply Kd.R_drew)); exact HO_12.out) hb); have n1_ := Aside0.mk (below_step (by repeat (first | (with_reducible first | exact HB.out | apply below_alloc | apply pw_below_drewN | apply below_drew1) | exact HB.out)) hb); clear HO_12; clear HB; have HO_12 := n0_; have HB := n1_; clear n0_ n1_; (try clear hb); (try clear hb2); (try clear hk); (try clear hi)))
                                    go_ret
                                    try subst hrt
                                    exact ⟨by first | rfl | (simp [errW_none, errW_some] <;> rfl) | (simp [*, errW_none, errW_some] <;> rfl), by repeat (first | (with_reducible first | exact HB.out | apply below_alloc | apply pw_below_drewN | apply below_drew1) | exact HB.out)⟩)
                              · rw [if_neg c33] at H
                                have c33b0 : decide (t135 ≤ t151) = false := decide_eq_false c33
                                clear c33
                                have hrt := Option.some.inj H
                                first | exact absurd hrt (by decide) | skip
                                all_goals (
                                  obtain ⟨Ao46, co46, eo46⟩ := Kd.R_slice HO_12.out
                                  subst eo46
                                  go_wp2_with (first | ((with_reducible refine gate_callee (f := 23) rfl ?_); refine goesL_ (some 76) rfl rfl Try.func23 (by kernel_rfl) rfl #[.slice Ao46 x12_2.length co46] rfl (by (try simp only [List.map_toArray, List.map_cons, List.map_nil]); first | done | rfl | (simp only [List.length_drop, List.length_take]; rfl)) ?_; (with_reducible refine (intrinsic_MinMax.calls _ _ x12_2 t158 t159 t160 _ ?side1 ?side2 A28.out).mono ?_); (case side1 => repeat (first | exact (Kd.R_reads' HO_12.out).2.2 | (with_reducible refine Kd.C_alloc ?_ _) | (with_reducible refine Kd.C_drewN ?_ _) | (with_reducible refine Kd.C_drew ?_))); (case side2 => exact (Kd.R_reads' HO_12.out).2.1); rintro e w47 ⟨rfl, hb⟩; refine ⟨_, rfl, ?_⟩; have n0_ := Aside0.mk (Kd.R_below (by (with_reducible repeat (first | apply Kd.R_alloc | apply Kd.R_drewN | apply Kd.R_drew)); exact HO_12.out) hb); have n1_ := Aside0.mk (below_step (by repeat (first | (with_reducible first | exact HB.out | apply below_alloc | apply pw_below_drewN | apply below_drew1) | exact HB.out)) hb); clear HO_12; clear HB; have HO_12 := n0_; have HB := n1_; clear n0_ n1_; (try clear hb); (try clear hb2); (try clear hk); (try clear hi)))
                                  go_ret
                                  try subst hrt
                                  exact ⟨by first | rfl | (simp [errW_none, errW_some] <;> rfl) | (simp [*, errW_none, errW_some] <;> rfl), by repeat (first | (with_reducible first | exact HB.out | apply below_alloc | apply pw_below_drewN | apply below_drew1) | exact HB.out)⟩)
                            · rw [if_neg c32] at H
                              have c32b0 : decide (t134 ≤ t150) = false := decide_eq_false c32
                              clear c32
                              have hrt := Option.some.inj H
                              first | exact absurd hrt (by decide) | skip
                              all_goals (
                                obtain ⟨Ao48, co48, eo48⟩ := Kd.R_slice HO_12.out
                                subst eo48
                                go_wp2_with (first | ((with_reducible refine gate_callee (f := 23) rfl ?_); refine goesL_ (some 76) rfl rfl Try.func23 (by kernel_rfl) rfl #[.slice Ao48 x12_2.length co48] rfl (by (try simp only [List.map_toArray, List.map_cons, List.map_nil]); first | done | rfl | (simp only [List.length_drop, List.length_take]; rfl)) ?_; (with_reducible refine (intrinsic_MinMax.calls _ _ x12_2 t158 t159 t160 _ ?side1 ?side2 A28.out).mono ?_); (case side1 => repeat (first | exact (Kd.R_reads' HO_12.out).2.2 | (with_reducible refine Kd.C_alloc ?_ _) | (with_reducible refine Kd.C_drewN ?_ _) | (with_reducible refine Kd.C_drew ?_))); (case side2 => exact (Kd.R_reads' HO_12.out).2.1); rintro e w49 ⟨rfl, hb⟩; refine ⟨_, rfl, ?_⟩; have n0_ := Aside0.mk (Kd.R_below (by (with_reducible repeat (first | apply Kd.R_alloc | apply Kd.R_drewN | apply Kd.R_drew)); exact HO_12.out) hb); have n1_ := Aside0.mk (below_step (by repeat (first | (with_reducible first | exact HB.out | apply below_alloc | apply pw_below_drewN | apply below_drew1) | exact HB.out)) hb); clear HO_12; clear HB; have HO_12 := n0_; have HB := n1_; clear n0_ n1_; (try clear hb); (try clear hb2); (try clear hk); (try clear hi)))
                                go_ret
                                try subst hrt
                                exact ⟨by first | rfl | (simp [errW_none, errW_some] <;> rfl) | (simp [*, errW_none, errW_some] <;> rfl), by repeat (first | (with_reducible first | exact HB.out | apply below_alloc | apply pw_below_drewN | apply below_drew1) | exact HB.out)⟩)
                          · rw [if_neg c31] at H
                            have c31b0 : (t152 == 0) = false := beq_eq_false_iff_ne.mpr c31
                            have c31b1 : (t152 != 0) = true := bne_iff_ne.mpr c31
                            by_cases c50 : t160 = 0
                            · rw [if_pos c50] at H
                              have c50b0 : (t160 == 0) = true := beq_iff_eq.mpr c50
                              have c50b1 : (t160 != 0) = false := bne_eq_false_iff_eq.mpr c50
                              clear c50
                              by_cases c51 : t158 = t159
                              · rw [if_pos c51] at H
                                have c51b0 : (t158 == t159) = true := beq_iff_eq.mpr c51
                                have c51b1 : (t158 != t159) = false := bne_eq_false_iff_eq.mpr c51
                                clear c51
                                replace H := Option.bind_eq_some_iff.mp H
                                obtain ⟨t163, A520, H⟩ := H
                                replace H : (some t163) = some true := H
                                have A52 := Aside0.mk A520
                                clear A520
                                have hrt := Option.some.inj H
                                first | exact absurd hrt (by decide) | skip
                                all_goals (
                                  obtain ⟨Ao53, co53, eo53⟩ := Kd.R_slice HO_12.out
                                  subst eo53
                                  go_wp2_with (first | ((with_reducible refine gate_callee (f := 23) rfl ?_); refine goesL_ (some 76) rfl rfl Try.func23 (by kernel_rfl) rfl #[.slice Ao53 x12_2.length co53] rfl (by (try simp only [List.map_toArray, List.map_cons, List.map_nil]); first | done | rfl | (simp only [List.length_drop, List.length_take]; rfl)) ?_; (with_reducible refine (intrinsic_MinMax.calls _ _ x12_2 t158 t159 t160 _ ?side1 ?side2 A28.out).mono ?_); (case side1 => repeat (first | exact (Kd.R_reads' HO_12.out).2.2 | (with_reducible refine Kd.C_alloc ?_ _) | (with_reducible refine Kd.C_drewN ?_ _) | (with_reducible refine Kd.C_drew ?_))); (case side2 => exact (Kd.R_reads' HO_12.out).2.1); rintro e w54 ⟨rfl, hb⟩; refine ⟨_, rfl, ?_⟩; have n0_ := Aside0.mk (Kd.R_below (by (with_reducible repeat (first | apply Kd.R_alloc | apply Kd.R_drewN | apply Kd.R_drew)); exact HO_12.out) hb); have n1_ := Aside0.mk (below_step (by repeat (first | (with_reducible first | exact HB.out | apply below_alloc | apply pw_below_drewN | apply below_drew1) | exact HB.out)) hb); clear HO_12; clear HB; have HO_12 := n0_; have HB := n1_; clear n0_ n1_; (try clear hb); (try clear hb2); (try clear hk); (try clear hi)) | (go_at_call 22; (with_reducible refine (stickfullaw21_head.calls  t163 _ A52.out).mono ?_); rintro e w55 ⟨rfl, hb⟩; have n0_ := Aside0.mk (Kd.R_below (by (with_reducible repeat (first | apply Kd.R_alloc | apply Kd.R_drewN | apply Kd.R_drew)); exact HO_12.out) hb); have n1_ := Aside0.mk (below_step (by repeat (first | (with_reducible first | exact HB.out | apply below_alloc | apply pw_below_drewN | apply below_drew1) | exact HB.out)) hb); clear HO_12; clear HB; have HO_12 := n0_; have HB := n1_; clear n0_ n1_; (try clear hb); (try clear hb2); (try clear hk); (try clear hi)))
                                  go_ret
                                  try subst hrt
                                  exact ⟨by first | rfl | (simp [errW_none, errW_some] <;> rfl) | (simp [*, errW_none, errW_some] <;> rfl), by repeat (first | (with_reducible first | exact HB.out | apply below_alloc | apply pw_below_drewN | apply below_drew1) | exact HB.out)⟩)
                              · rw [if_neg c51] at H
                                have c51b0 : (t158 == t159) = false := beq_eq_false_iff_ne.mpr c51
                                have c51b1 : (t158 != t159) = true := bne_iff_ne.mpr c51
                                have hrt := Option.some.inj H
                                first | exact absurd hrt (by decide) | skip
                                all_goals (
                                  obtain ⟨Ao56, co56, eo56⟩ := Kd.R_slice HO_12.out
                                  subst eo56
                                  go_wp2_with (first | ((with_reducible refine gate_callee (f := 23) rfl ?_); refine goesL_ (some 76) rfl rfl Try.func23 (by kernel_rfl) rfl #[.slice Ao56 x12_2.length co56] rfl (by (try simp only [List.map_toArray, List.map_cons, List.map_nil]); first | done | rfl | (simp only [List.length_drop, List.length_take]; rfl)) ?_; (with_reducible refine (intrinsic_MinMax.calls _ _ x12_2 t158 t159 t160 _ ?side1 ?side2 A28.out).mono ?_); (case side1 => repeat (first | exact (Kd.R_reads' HO_12.out).2.2 | (with_reducible refine Kd.C_alloc ?_ _) | (with_reducible refine Kd.C_drewN ?_ _) | (with_reducible refine Kd.C_drew ?_))); (case side2 => exact (Kd.R_reads' HO_12.out).2.1); rintro e w57 ⟨rfl, hb⟩; refine ⟨_, rfl, ?_⟩; have n0_ := Aside0.mk (Kd.R_below (by (with_reducible repeat (first | apply Kd.R_alloc | apply Kd.R_drewN | apply Kd.R_drew)); exact HO_12.out) hb); have n1_ := Aside0.mk (below_step (by repeat (first | (with_reducible first | exact HB.out | apply below_alloc | apply pw_below_drewN | apply below_drew1) | exact HB.out)) hb); clear HO_12; clear HB; have HO_12 := n0_; have HB := n1_; clear n0_ n1_; (try clear hb); (try clear hb2); (try clear hk); (try clear hi)))
                                  go_ret
                                  try subst hrt
                                  exact ⟨by first | rfl | (simp [errW_none, errW_some] <;> rfl) | (simp [*, errW_none, errW_some] <;> rfl), by repeat (first | (with_reducible first | exact HB.out | apply below_alloc | apply pw_below_drewN | apply below_drew1) | exact HB.out)⟩)
                            · rw [if_neg c50] at H
                              have c50b0 : (t160 == 0) = false := beq_eq_false_iff_ne.mpr c50
                              have c50b1 : (t160 != 0) = true := bne_iff_ne.mpr c50
                              replace H := Option.bind_eq_some_iff.mp H
                              obtain ⟨t164, A580, H⟩ := H
                              replace H : (some t164) = some true := H
                              have A58 := Aside0.mk A580
                              clear A580
                              have hrt := Option.some.inj H
                              first | exact absurd hrt (by decide) | skip
                              all_goals (
                                obtain ⟨Ao59, co59, eo59⟩ := Kd.R_slice HO_12.out
                                subst eo59
                                go_wp2_with (first | ((with_reducible refine gate_callee (f := 23) rfl ?_); refine goesL_ (some 76) rfl rfl Try.func23 (by kernel_rfl) rfl #[.slice Ao59 x12_2.length co59] rfl (by (try simp only [List.map_toArray, List.map_cons, List.map_nil]); first | done | rfl | (simp only [List.length_drop, List.length_take]; rfl)) ?_; (with_reducible refine (intrinsic_MinMax.calls _ _ x12_2 t158 t159 t160 _ ?side1 ?side2 A28.out).mono ?_); (case side1 => repeat (first | exact (Kd.R_reads' HO_12.out).2.2 | (with_reducible refine Kd.C_alloc ?_ _) | (with_reducible refine Kd.C_drewN ?_ _) | (with_reducible refine Kd.C_drew ?_))); (case side2 => exact (Kd.R_reads' HO_12.out).2.1); rintro e w60 ⟨rfl, hb⟩; refine ⟨_, rfl, ?_⟩; have n0_ := Aside0.mk (Kd.R_below (by (with_reducible repeat (first | apply Kd.R_alloc | apply Kd.R_drewN | apply Kd.R_drew)); exact HO_12.out) hb); have n1_ := Aside0.mk (below_step (by repeat (first | (with_reducible first | exact HB.out | apply below_alloc | apply pw_below_drewN | apply below_drew1) | exact HB.out)) hb); clear HO_12; clear HB; have HO_12 := n0_; have HB := n1_; clear n0_ n1_; (try clear hb); (try clear hb2); (try clear hk); (try clear hi)) | (go_at_call 22; (with_reducible refine (stickfullaw21_head.calls  t164 _ A58.out).mono ?_); rintro e w61 ⟨rfl, hb⟩; have n0_ := Aside0.mk (Kd.R_below (by (with_reducible repeat (first | apply Kd.R_alloc | apply Kd.R_drewN | apply Kd.R_drew)); exact HO_12.out) hb); have n1_ := Aside0.mk (below_step (by repeat (first | (with_reducible first | exact HB.out | apply below_alloc | apply pw_below_drewN | apply below_drew1) | exact HB.out)) hb); clear HO_12; clear HB; have HO_12 := n0_; have HB := n1_; clear n0_ n1_; (try clear hb); (try clear hb2); (try clear hk); (try clear hi)))
                                go_ret
                                try subst hrt
                                exact ⟨by first | rfl | (simp [errW_none, errW_some] <;> rfl) | (simp [*, errW_none, errW_some] <;> rfl), by repeat (first | (with_reducible first | exact HB.out | apply below_alloc | apply pw_below_drewN | apply below_drew1) | exact HB.out)⟩)
                        · rw [if_neg c30] at H
                          have c30b0 : decide (t134 ≤ t135) = false := decide_eq_false c30
                          clear c30
                          have hrt := Option.some.inj H
                          first | exact absurd hrt (by decide) | skip
                          all_goals (
                            obtain ⟨Ao62, co62, eo62⟩ := Kd.R_slice HO_12.out
                            subst eo62
                            go_wp2_with (first | ((with_reducible refine gate_callee (f := 23) rfl ?_); refine goesL_ (some 76) rfl rfl Try.func23 (by kernel_rfl) rfl #[.slice Ao62 x12_2.length co62] rfl (by (try simp only [List.map_toArray, List.map_cons, List.map_nil]); first | done | rfl | (simp only [List.length_drop, List.length_take]; rfl)) ?_; (with_reducible refine (intrinsic_MinMax.calls _ _ x12_2 t158 t159 t160 _ ?side1 ?side2 A28.out).mono ?_); (case side1 => repeat (first | exact (Kd.R_reads' HO_12.out).2.2 | (with_reducible refine Kd.C_alloc ?_ _) | (with_reducible refine Kd.C_drewN ?_ _) | (with_reducible refine Kd.C_drew ?_))); (case side2 => exact (Kd.R_reads' HO_12.out).2.1); rintro e w63 ⟨rfl, hb⟩; refine ⟨_, rfl, ?_⟩; have n0_ := Aside0.mk (Kd.R_below (by (with_reducible repeat (first | apply Kd.R_alloc | apply Kd.R_drewN | apply Kd.R_drew)); exact HO_12.out) hb); have n1_ := Aside0.mk (below_step (by repeat (first | (with_reducible first | exact HB.out | apply below_alloc | apply pw_below_drewN | apply below_drew1) | exact HB.out)) hb); clear HO_12; clear HB; have HO_12 := n0_; have HB := n1_; clear n0_ n1_; (try clear hb); (try clear hb2); (try clear hk); (try clear hi)))
                            go_ret
                            try subst hrt
                            exact ⟨by first | rfl | (simp [errW_none, errW_some] <;> rfl) | (simp [*, errW_none, errW_some] <;> rfl), by repeat (first | (with_reducible first | exact HB.out | apply below_alloc | apply pw_below_drewN | apply below_drew1) | exact HB.out)⟩)
                      · rw [if_neg c29] at H
                        have c29b0 : decide (0 ≤ t134) = false := decide_eq_false c29
                        clear c29
                        have hrt := Option.some.inj H
                        first | exact absurd hrt (by decide) | skip
                        all_goals (
                          obtain ⟨Ao64, co64, eo64⟩ := Kd.R_slice HO_12.out
                          subst eo64
                          go_wp2_with (first | ((with_reducible refine gate_callee (f := 23) rfl ?_); refine goesL_ (some 76) rfl rfl Try.func23 (by kernel_rfl) rfl #[.slice Ao64 x12_2.length co64] rfl (by (try simp only [List.map_toArray, List.map_cons, List.map_nil]); first | done | rfl | (simp only [List.length_drop, List.length_take]; rfl)) ?_; (with_reducible refine (intrinsic_MinMax.calls _ _ x12_2 t158 t159 t160 _ ?side1 ?side2 A28.out).mono ?_); (case side1 => repeat (first | exact (Kd.R_reads' HO_12.out).2.2 | (with_reducible refine Kd.C_alloc ?_ _) | (with_reducible refine Kd.C_drewN ?_ _) | (with_reducible refine Kd.C_drew ?_))); (case side2 => exact (Kd.R_reads' HO_12.out).2.1); rintro e w65 ⟨rfl, hb⟩; refine ⟨_, rfl, ?_⟩; have n0_ := Aside0.mk (Kd.R_below (by (with_reducible repeat (first | apply Kd.R_alloc | apply Kd.R_drewN | apply Kd.R_drew)); exact HO_12.out) hb); have n1_ := Aside0.mk (below_step (by repeat (first | (with_reducible first | exact HB.out | apply below_alloc | apply pw_below_drewN | apply below_drew1) | exact HB.out)) hb); clear HO_12; clear HB; have HO_12 := n0_; have HB := n1_; clear n0_ n1_; (try clear hb); (try clear hb2); (try clear hk); (try clear hi)))
                          go_ret
                          try subst hrt
                          exact ⟨by first | rfl | (simp [errW_none, errW_some] <;> rfl) | (simp [*, errW_none, errW_some] <;> rfl), by repeat (first | (with_reducible first | exact HB.out | apply below_alloc | apply pw_below_drewN | apply below_drew1) | exact HB.out)⟩)
              · rw [if_neg c12] at H
                exact absurd H (by simp)
            · rw [if_neg c11] at H
              exact absurd H (by simp)
          · rw [if_neg c10] at H
            exact absurd H (by simp)
        · rw [if_neg c9] at H
          have c9b0 : (t136 == 0) = false := beq_eq_false_iff_ne.mpr c9
          have c9b1 : (t136 != 0) = true := bne_iff_ne.mpr c9
          by_cases c66 : t134 = 0
          · rw [if_pos c66] at H
            have c66b0 : (t134 == 0) = true := beq_iff_eq.mpr c66
            have c66b1 : (t134 != 0) = false := bne_eq_false_iff_eq.mpr c66
            clear c66
            by_cases c67 : t135 = 0
            · rw [if_pos c67] at H
              have c67b0 : (t135 == 0) = true := beq_iff_eq.mpr c67
              have c67b1 : (t135 != 0) = false := bne_eq_false_iff_eq.mpr c67
              clear c67
              replace H := Option.bind_eq_some_iff.mp H
              obtain ⟨t137, A680, H⟩ := H
              replace H : (some t137) = some true := H
              have A68 := Aside0.mk A680
              clear A680
              have hrt := Option.some.inj H
              first | exact absurd hrt (by decide) | skip
              all_goals (
                go_wp2_with (first | ((with_reducible refine gate_callee (f := 23) rfl ?_); refine goesL_ (some 29) rfl rfl Try.func23 (by kernel_rfl) rfl #[.slice A0 l0.length c0] rfl (by (try simp only [List.map_toArray, List.map_cons, List.map_nil]); first | done | rfl | (simp only [List.length_drop, List.length_take]; rfl)) ?_; (with_reducible refine (intrinsic_MinMax.calls _ _ l0 t134 t135 t136 _ ?side1 ?side2 A8.out).mono ?_); (case side1 => repeat (first | exact (Kd.C_below HR0.out HB.out) | (with_reducible refine Kd.C_alloc ?_ _) | (with_reducible refine Kd.C_drewN ?_ _) | (with_reducible refine Kd.C_drew ?_))); (case side2 => exact HC0.out); rintro e w69 ⟨rfl, hb⟩; refine ⟨_, rfl, ?_⟩; have n0_ := Aside0.mk (below_step (by repeat (first | (with_reducible first | exact HB.out | apply below_alloc | apply pw_below_drewN | apply below_drew1) | exact HB.out)) hb); clear HB; have HB := n0_; clear n0_; (try clear hb); (try clear hb2); (try clear hk); (try clear hi)) | (go_at_call 22; (with_reducible refine (stickfullaw21_head.calls  t137 _ A68.out).mono ?_); rintro e w70 ⟨rfl, hb⟩; have n0_ := Aside0.mk (below_step (by repeat (first | (with_reducible first | exact HB.out | apply below_alloc | apply pw_below_drewN | apply below_drew1) | exact HB.out)) hb); clear HB; have HB := n0_; clear n0_; (try clear hb); (try clear hb2); (try clear hk); (try clear hi)))
                go_ret
                try subst hrt
                exact ⟨by first | rfl | (simp [errW_none, errW_some] <;> rfl) | (simp [*, errW_none, errW_some] <;> rfl), by repeat (first | (with_reducible first | exact HB.out | apply below_alloc | apply pw_below_drewN | apply below_drew1) | exact HB.out)⟩)
            · rw [if_neg c67] at H
              have c67b0 : (t135 == 0) = false := beq_eq_false_iff_ne.mpr c67
              have c67b1 : (t135 != 0) = true := bne_iff_ne.mpr c67
              have hrt := Option.some.inj H
              first | exact absurd hrt (by decide) | skip
              all_goals (
                go_wp2_with (first | ((with_reducible refine gate_callee (f := 23) rfl ?_); refine goesL_ (some 29) rfl rfl Try.func23 (by kernel_rfl) rfl #[.slice A0 l0.length c0] rfl (by (try simp only [List.map_toArray, List.map_cons, List.map_nil]); first | done | rfl | (simp only [List.length_drop, List.length_take]; rfl)) ?_; (with_reducible refine (intrinsic_MinMax.calls _ _ l0 t134 t135 t136 _ ?side1 ?side2 A8.out).mono ?_); (case side1 => repeat (first | exact (Kd.C_below HR0.out HB.out) | (with_reducible refine Kd.C_alloc ?_ _) | (with_reducible refine Kd.C_drewN ?_ _) | (with_reducible refine Kd.C_drew ?_))); (case side2 => exact HC0.out); rintro e w71 ⟨rfl, hb⟩; refine ⟨_, rfl, ?_⟩; have n0_ := Aside0.mk (below_step (by repeat (first | (with_reducible first | exact HB.out | apply below_alloc | apply pw_below_drewN | apply below_drew1) | exact HB.out)) hb); clear HB; have HB := n0_; clear n0_; (try clear hb); (try clear hb2); (try clear hk); (try clear hi)))
                go_ret
                try subst hrt
                exact ⟨by first | rfl | (simp [errW_none, errW_some] <;> rfl) | (simp [*, errW_none, errW_some] <;> rfl), by repeat (first | (with_reducible first | exact HB.out | apply below_alloc | apply pw_below_drewN | apply below_drew1) | exact HB.out)⟩)
          · rw [if_neg c66] at H
            have c66b0 : (t134 == 0) = false := beq_eq_false_iff_ne.mpr c66
            have c66b1 : (t134 != 0) = true := bne_iff_ne.mpr c66
            have hrt := Option.some.inj H
            first | exact absurd hrt (by decide) | skip
            all_goals (
              go_wp2_with (first | ((with_reducible refine gate_callee (f := 23) rfl ?_); refine goesL_ (some 29) rfl rfl Try.func23 (by kernel_rfl) rfl #[.slice A0 l0.length c0] rfl (by (try simp only [List.map_toArray, List.map_cons, List.map_nil]); first | done | rfl | (simp only [List.length_drop, List.length_take]; rfl)) ?_; (with_reducible refine (intrinsic_MinMax.calls _ _ l0 t134 t135 t136 _ ?side1 ?side2 A8.out).mono ?_); (case side1 => repeat (first | exact (Kd.C_below HR0.out HB.out) | (with_reducible refine Kd.C_alloc ?_ _) | (with_reducible refine Kd.C_drewN ?_ _) | (with_reducible refine Kd.C_drew ?_))); (case side2 => exact HC0.out); rintro e w72 ⟨rfl, hb⟩; refine ⟨_, rfl, ?_⟩; have n0_ := Aside0.mk (below_step (by repeat (first | (with_reducible first | exact HB.out | apply below_alloc | apply pw_below_drewN | apply below_drew1) | exact HB.out)) hb); clear HB; have HB := n0_; clear n0_; (try clear hb); (try clear hb2); (try clear hk); (try clear hi)))
              go_ret
              try subst hrt
              exact ⟨by first | rfl | (simp [errW_none, errW_some] <;> rfl) | (simp [*, errW_none, errW_some] <;> rfl), by repeat (first | (with_reducible first | exact HB.out | apply below_alloc | apply pw_below_drewN | apply below_drew1) | exact HB.out)⟩)end Go.Proofs.Ytkcmehijmgjgfaa.MIntrinsicGrows
