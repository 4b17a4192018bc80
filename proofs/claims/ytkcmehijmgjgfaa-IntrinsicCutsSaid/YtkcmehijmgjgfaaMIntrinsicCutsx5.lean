-- Written by a program of this session for this claim.
import Derived.Test.YtkcmehijmgjgfaaMIntrinsicCutsx0
import Derived.Test.YtkcmehijmgjgfaaMIntrinsicCutsx3
import Derived.Test.YtkcmehijmgjgfaaMIntrinsicCutsx4
namespace Go.Proofs.Ytkcmehijmgjgfaa.MIntrinsicCuts
open Go.RowKit Go.Proofs.YtkcmehijmgjgfaaW.PrintWords Go.Proofs.YtkcmehijmgjgfaaW.PrintLast Go.Proofs.YtkcmehijmgjgfaaW.PrintMore
attribute [local go_sem] max2_int min2_int max_two min_two max_three min_three max_four min_four   -- for this text's walks alone
set_option linter.unusedVariables false
set_option linter.unusedSimpArgs false

attribute [local irreducible] Go.wpStill Go.wpQuiet
/-! ### intrinsic_Pieces: function 29 -/
-- needs func intrinsic.MinMax
section
open Go.Proofs.Ytkcmehijmgjgfaa.It Go.Shelf
attribute [local go_sem] Oper.semAt_some
/-- A box B holds a slice that owns xs, of several cells each, in a block of Og. -/
def CollN {α : Type} (b0 B t e sz : Nat) (Og : Nat → Prop) (enc : α → List Value) (xs : List α) (W : World) : Prop :=
  ∃ v, Boxed W B t v ∧ W.ownsRow b0 e sz v xs.length (xs.flatMap enc) ∧ ∀ g, v.ownBlock = some g → Og g
theorem CollN.lv {α : Type} {b0 b t e sz : Nat} {Og O : Nat → Prop} {enc : α → List Value} {xs : List α} {A B : World} (h : CollN b0 b t e sz Og enc xs A) (hl : Lv O A B) (hb : ¬ O b) (hO : ∀ g, Og g → ¬ O g) : CollN b0 b t e sz Og enc xs B := by
  obtain ⟨v, h1, h2, h3⟩ := h
  exact ⟨v, boxed_lv hl h1 hb, own_lv hl h2 (fun g hg => hO g (h3 g hg)), h3⟩
theorem collN_nil {α : Type} {b0 B t e sz : Nat} {Og : Nat → Prop} {enc : α → List Value} {W : World} (hv : Boxed W B t (.slice none 0 0)) : CollN b0 B t e sz Og enc [] W :=
  ⟨_, hv, World.ownsRow_nil _ _ _ _, fun k hk => by cases hk⟩
theorem collN_appended {α : Type} {W w1 : World} {b0 B t e sz : Nat} {Og Ob : Nat → Prop} {enc : α → List Value} {xs : List α} {x : α} {v v' : Value} {tmp : Obj}
    (hv : Boxed W B t v) (hte : t ≠ e) (hrow : W.ownsRow b0 e sz v xs.length (xs.flatMap enc)) (hO : ∀ g, v.ownBlock = some g → Og g) (hnew : ∀ g, W.heap.size ≤ g → Og g) (hb0 : b0 ≤ W.heap.size) (hB : b0 ≤ B)
    (hown' : w1.ownsRow b0 e sz v' (xs.length + 1) (xs.flatMap enc ++ enc x)) (hgrow : (W.alloc tmp).grownBy w1 v.ownBlock) (hat : v'.ownBlock = v.ownBlock ∨ v'.ownBlock = some (W.alloc tmp).heap.size) (hOb : ∀ g, Og g → Ob g) (hObB : Ob B) :
    CollN b0 B t e sz Og enc (xs ++ [x]) (w1.setCell ⟨B, 0, none⟩ v') ∧ Lv Ob W (w1.setCell ⟨B, 0, none⟩ v') ∧ Below b0 W (w1.setCell ⟨B, 0, none⟩ v') := by
  obtain ⟨hv1, hv2, hr2, _, hb2⟩ := hv.appended hte hrow hb0 hB hown' hgrow
  refine ⟨⟨v', hv2, by simpa using hr2, fun g hg => ?_⟩, ?_, hb2⟩
  · rcases hat with h | h
    · exact hO g (h ▸ hg)
    · rw [h] at hg
      cases hg
      exact hnew _ (by simp)
  · exact ((Lv.alloc Ob W tmp).trans (Lv.grown hgrow (fun k hk => hOb k (hO k hk)))).trans (Lv.setCell _ hObB)
theorem cell_two_new (w : World) (x y : Value) (t : TypeId) : ∀ j u, [x, y][j]? = some u → (w.alloc (.cells #[x, y] t)).cell? ((⟨w.heap.size, 0, none⟩ : Addr).add j) = some u := by
  intro j u hj
  rw [add_plain]
  refine cell_new ?_
  simpa using hj
theorem infoA43 : (Try.prog.info? 43).map (fun i => (i.zero, i.size, i.bytes)) = some (some (.agg #[.int .i64 0, .int .i64 0]), 2, 16) := by kernel_rfl
def encP (p : Nat × Nat) : List Value := [.int .i64 (p.1 : Int), .int .i64 (p.2 : Int)]
def seqT (w : World) (lb : Array Value) (p : Nat × Nat) (b : Nat) : Act :=
  { tmps := #[.slice none 0 0, .func (.func 89) #[] lb, .pointer (some ⟨w.heap.size, 0, none⟩), undef, .slice none 0 0, .pointer (some ⟨b, 0, none⟩), .func (.func 89) #[] lb, .agg #[.int .i64 (p.1 : Int), .int .i64 (p.2 : Int)], undef, undef, undef, undef, undef], defers := [] }
structure SeqA (w : World) (D : Nat) (lb : Array Value) (ps : List (Nat × Nat)) (k : Nat) (a' : Act) (W : World) : Prop where
  ex : ∃ b p, ps[k]? = some p ∧ b ≠ D ∧ b ≠ D + 1 ∧ W.heap[b]? = some (.cells #[.int .i64 (p.1 : Int), .int .i64 (p.2 : Int)] 43 (0, 0)) ∧ a' = seqT w lb p b
structure SeqI (w : World) (D : Nat) (ps : List (Nat × Nat)) (k : Nat) (W : World) : Prop where
  coll : CollN w.heap.size w.heap.size 40 43 2 (fun g => D + 2 ≤ g) encP (ps.take k) W
  below : Below w.heap.size w W

set_option maxRecDepth 100000 in
set_option maxHeartbeats 4000000 in
theorem appendSeq_calls (w : World) (lb : Array Value) (ps : List (Nat × Nat)) (hpl : ps.length < 4398046511104)
    (hseq : ∀ W Oc, Below w.heap.size w W → (∀ i, i < w.heap.size → ¬ Oc i) → Seq 3 Try.prog 89 lb (ps.map encPart') (fun _ => False) Oc W) :
    Calls Try.prog 90 #[.slice none 0 0, .func (.func 89) #[] lb] w fun e w' => ∃ v, e = .returned v ∧ w'.ownsRow w.heap.size 43 2 v ps.length (ps.flatMap encP) ∧ Below w.heap.size w w' := by
  have HS := Aside0.mk hseq
  have HPL := Aside0.mk hpl
  clear hseq hpl
  refine (callsIn_wide (n := 7)).1 (callsIn_of_wp_marks Try.func90 rfl trivial ?_ rfl)
  refine wpIn_wide.2 ?_
  simp only [Try.ntmps90, List.size_toArray, List.length_cons, List.length_nil, Nat.reduceAdd, Nat.reduceSub, Array.replicate_succ, Array.replicate_zero, List.push_toArray, List.append_toArray, List.nil_append, List.cons_append]
  go_wp2
  refine wp_name ?_
  intro W0 hW0
  have hsz : W0.heap.size = w.heap.size + 1 := by rw [hW0]; simp
  have b2 : Boxed W0 w.heap.size 40 (.slice none 0 0) := by rw [hW0]; exact boxed_at rfl
  have hB0 : Below w.heap.size w W0 := by rw [hW0]; exact below_alloc (Below.refl _ _) _
  have hsz1 : W0.heap.size ≤ w.heap.size + 1 := by omega
  have hsz2 : w.heap.size + 1 ≤ W0.heap.size := by omega
  clear hW0 hsz
  apply wp_rangedX (m := 3) (gf := 89) (lb := lb) (by simp [go_sem]) (enters_of Try.func89 (by kernel_rfl) rfl)
    ps encPart' (fun _ _ => rfl) (fun _ => False) (fun i => i = w.heap.size ∨ W0.heap.size + 2 ≤ i) ⟨by omega, by omega⟩ (fun _ h => h.elim)
    (HS.out W0 _ hB0 (by intro i hi; omega))
    (SeqI w W0.heap.size ps) (fun _ _ _ => False) ?hI ?hIx ?h0 (SeqA w W0.heap.size lb ps) ?hAx ?assign ?body ?done ?stop
  case hI =>
    rintro k A B ⟨hC, hB⟩ hl
    exact ⟨hC.lv hl (by rintro (h | h | h) <;> omega) (fun g hg => by rintro (h | h | h) <;> omega), hB.trans (hl.below hB.size (fun i hi => by rintro (h | h | h) <;> omega))⟩
  case hIx => intro c k A B h _; exact h
  case h0 => exact ⟨collN_nil b2, hB0⟩
  case hAx =>
    rintro k a' A B ⟨b, p, hp, h2, h3, h4, h5⟩ hl
    exact ⟨b, p, hp, h2, h3, hl.heap h4 (by omega), h5⟩
  case assign =>
    intro l k hk W K hWl hI hK
    have HK := Aside0.mk hK
    clear hK
    obtain ⟨p, hp⟩ : ∃ p, p = ps[k] := ⟨_, rfl⟩
    have HP := Aside0.mk hp
    rw [← hp]
    clear hp
    unfold encPart'
    gi_wp2
    obtain ⟨hC, hB⟩ := hI
    refine HK.out _ _ (Lv.alloc _ _ _) ⟨hC.lv (O := fun _ => False) (Lv.alloc _ _ _) (fun h => h) (fun _ _ h => h), below_alloc hB _⟩ ⟨W.heap.size, p, ?_, by omega, by omega, World.alloc_heap_new _ _, rfl⟩
    rw [HP.out]; exact List.getElem?_eq_getElem hk
  case body =>
    rintro l k hk a' W hD ⟨rL, hL⟩ ⟨⟨v, bv, hrow, hOg⟩, hB⟩ ⟨b, p, hp, hb2, hb3, hbx, rfl⟩
    have hW2 : W0.heap.size + 1 < W.heap.size := (Array.getElem?_eq_some_iff.1 hL).1
    have hp' : ps[k] = p := by rw [List.getElem?_eq_getElem hk] at hp; exact Option.some.inj hp
    have HP := Aside0.mk hp'
    have l6 : w.heap.size < W.heap.size := by omega
    obtain ⟨ys, hys⟩ : ∃ ys, ys = ps.take k := ⟨_, rfl⟩
    rw [← hys] at hrow
    have hlk : ys.length = k := by rw [hys]; simp; omega
    have HYS := Aside0.mk hys
    have HLK := Aside0.mk hlk
    have hk2 : k < 4398046511104 := by have := HPL.out; omega
    clear hys hlk hp hp' hD hL
    have gv := bv.cell
    have x0 := heap_cellAt (i := 0) hbx
    have x1 := heap_cellAt (i := 1) hbx
    simp at x0 x1
    obtain ⟨i0, hi, hz0, hz1, hz2⟩ := info_parts infoA43
    unfold seqT
    gi_wp2_with (gi_at_builtin; refine wpListIn_append_own_at _ rfl _ _ 40 rfl w.heap.size 43 i0 (.agg #[.int .i64 0, .int .i64 0]) 2 16 Try.underlying40 hi hz0 hz1 hz2 rfl (by decide) _ _ _ rfl (hrow.alloc _) ⟨W.heap.size, 0, none⟩ 1 1 [.int .i64 (p.1 : Int), .int .i64 (p.2 : Int)] rfl rfl (cell_two_new _ _ _ _) (by simp [Value.oneCell']) (by rw [HLK.out]; simp only [maxLen]; omega) (by rw [HLK.out]; omega) (by simp; omega) ?_; intro v' w1 hown' hgrow _ hat; obtain ⟨g', cap', rfl⟩ := ownsRow_succ hown'; have HAP := Aside0.mk (collN_appended (x := p) (Ob := fun i => i = w.heap.size ∨ W0.heap.size + 2 ≤ i) bv (by decide) hrow hOg (fun g hg => by omega) (by omega) (by omega) hown' hgrow hat (fun g hg => .inr hg) (.inl rfl)); have HG := Aside0.mk (bv.not_row (by decide) hrow); have bv1 := (bv.alloc _).kept hgrow HG.out; have hc1 := bv1.cell; have hf1 := bv1.frozen; clear hown' hgrow hat)
    refine ⟨HAP.out.2.1, ?_, hB.trans HAP.out.2.2⟩
    have h := HAP.out.1
    rw [List.take_succ_eq_append_getElem hk, HP.out]
    obtain rfl := HYS.out
    exact h
  case done =>
    rintro W ⟨⟨v, bv, hrow, hOg⟩, hB⟩ hD
    rw [List.take_length] at hrow
    have hDl : W0.heap.size < W.heap.size := (Array.getElem?_eq_some_iff.1 hD).1
    have gv := bv.cell
    go_wp2
    refine ⟨by simp, .inl ⟨W0.heap.size, _, rfl, run_takeDeferred hD, ?_⟩⟩
    have hL4 := Lv.putObj (O := fun i => i = W0.heap.size) (A := W) (.deferred none) rfl
    refine ⟨v, by simp [results, Try.f90, go_sem], _, rfl, own_lv hL4 hrow (fun g hg => by have := hOg g hg; omega), hB.trans (hL4.below (by omega) (fun i hi => by omega))⟩
  case stop => intro c k W _ h; exact h.elim
theorem collect_calls (w : World) (lb : Array Value) (ps : List (Nat × Nat)) (hpl : ps.length < 4398046511104)
    (hseq : ∀ W Oc, Below w.heap.size w W → (∀ i, i < w.heap.size → ¬ Oc i) → Seq 3 Try.prog 89 lb (ps.map encPart') (fun _ => False) Oc W) :
    Calls Try.prog 58 #[.func (.func 89) #[] lb] w fun e w' => ∃ v, e = .returned v ∧ w'.ownsRow w.heap.size 43 2 v ps.length (ps.flatMap encP) ∧ Below w.heap.size w w' := by
  have HC := Aside0.mk (appendSeq_calls w lb ps hpl hseq)
  clear hseq
  go_enter Try.func58, Try.ntmps58
  go_wp2_with fail
  refine HC.out.mono ?_
  rintro e w1 ⟨v, rfl, h⟩
  have H := Aside0.mk h
  clear h
  go_wp2
  go_ret
  exact ⟨v, rfl, H.out⟩
theorem partsGo_length (cut : S25 → Bool) : ∀ (l : List S25) (s i : Nat), (partsGo cut s i l).length ≤ l.length
  | [], s, i => by simp [partsGo]
  | [c], s, i => by simp [partsGo]
  | c :: d :: l, s, i => by
    rw [partsGo]
    have h1 := partsGo_length cut (d :: l) (i + 1) (i + 1)
    have h2 := partsGo_length cut (d :: l) s (i + 1)
    simp only [List.length_cons] at h1 h2 ⊢
    split
    · simp only [List.length_cons]; omega
    · omega
theorem partsL_length (cut : S25 → Bool) (l : List S25) : (partsL cut l).length ≤ l.length := partsGo_length cut l 0 0
theorem ownsRow_lower {W : World} {b b' : Nat} {e : TypeId} {size n : Nat} {v : Value} {xs : List Value} (h : W.ownsRow b e size v n xs) (hb : b' ≤ b) : W.ownsRow b' e size v n xs := by
  obtain ⟨h1, h2⟩ := h
  refine ⟨h1, ?_⟩
  rcases h2 with h2 | ⟨g, cap, cur, rfl, hg, r⟩
  · exact .inl h2
  · exact .inr ⟨g, cap, cur, rfl, by omega, r⟩
/-- Both lists of cuts: what is laid, collected. -/
theorem cuts_calls (w W : World) (A0 : Option Addr) (c0 : Nat) (l0 : List S25) (hC0 : Kd.C k25 w A0 l0.length l0) (hb : Below w.heap.size w W) (hlen : l0.length < 4398046511104)
    (fid : Nat) (cut : S25 → Bool) (eg : ∀ args w, (callFunc fid args).run Try.prog w = .ok (.enter fid args) w)
    (hp : ∀ c W, Calls Try.prog fid (#[encC c] ++ #[]) W fun e W' => e = .returned (.bool (cut c)) ∧ Below W.heap.size W W') :
    Calls Try.prog 58 #[.func (.func 89) #[] #[.pointer (some ⟨W.heap.size, 0, none⟩), .pointer (some ⟨W.heap.size + 1, 0, none⟩)]]
      ((W.alloc (.cells #[.slice A0 l0.length c0] 22)).alloc (.cells #[.func (.func fid) #[] #[]] 94)) fun e w' => ∃ v, e = .returned v ∧ w'.ownsRow w.heap.size 43 2 v (partsL cut l0).length ((partsL cut l0).flatMap encP) ∧ Below w.heap.size w w' := by
  obtain ⟨W2, hW2⟩ : ∃ W2, W2 = (W.alloc (.cells #[.slice A0 l0.length c0] 22)).alloc (.cells #[.func (.func fid) #[] #[]] 94) := ⟨_, rfl⟩
  have b1 : Boxed W2 W.heap.size 22 (.slice A0 l0.length c0) := by rw [hW2]; exact (boxed_at rfl).alloc _
  have b2 : Boxed W2 (W.heap.size + 1) 94 (.func (.func fid) #[] #[]) := by rw [hW2]; exact boxed_at (by simp)
  have hsz : W2.heap.size = W.heap.size + 2 := by rw [hW2]; simp
  have hB : Below w.heap.size w W2 := by rw [hW2]; exact below_alloc (below_alloc hb _) _
  have hbs := hb.size
  rw [← hW2]
  have hS := partsL_S cut l0
  have hk : ∀ W', Below W2.heap.size W2 W' → Below w.heap.size w W' := fun W' h => below_step hB h
  refine (collect_calls W2 _ (partsL cut l0) (Nat.lt_of_le_of_lt (partsL_length cut l0) hlen) ?_).mono ?_
  · intro W' Oc h hO
    have q := fun {b t v} (hx : Boxed W2 b t v) => boxed_lv (Lv.of_below (O := fun _ => False) h) hx (fun h => h)
    exact parts_seq 2 w W' (hk W' h) A0 c0 l0 fid #[] hC0 W.heap.size (W.heap.size + 1) (q b1) (q b2) Oc (hO _ (by omega)) (hO _ (by omega)) (fun i hi => hO i (by omega)) cut eg hp _ hS (by omega)
  · rintro e w' ⟨v, rfl, h1, h2⟩
    exact ⟨v, rfl, ownsRow_lower h1 (by omega), hk w' h2⟩
theorem lines_calls (A0 : Option Addr) (c0 : Nat) (l0 : List S25) (w : World) (hC0 : Kd.C k25 w A0 l0.length l0) (hlen : l0.length < 4398046511104) :
    Calls Try.prog 27 #[.slice A0 l0.length c0] w fun e w' => ∃ v, e = .returned v ∧ w'.ownsRow w.heap.size 43 2 v (partsL (fun _ => false) l0).length ((partsL (fun _ => false) l0).flatMap encP) ∧ Below w.heap.size w w' := by
  have H1 := Aside0.mk (cuts_calls w w A0 c0 l0 hC0 (Below.refl _ _) hlen 56 (fun _ => false) (enters_of Try.func56 (by kernel_rfl) rfl) never_calls)
  go_enter Try.func27, Try.ntmps27
  go_wp2_with fail
  refine (parts_calls A0 l0.length c0 56 #[] _).mono ?_
  rintro e w3 ⟨rfl, rfl⟩
  go_wp2_with fail
  refine H1.out.mono ?_
  rintro e w4 ⟨v, rfl, h⟩
  have H := Aside0.mk h
  clear h
  go_wp2
  go_ret
  exact ⟨v, rfl, H.out⟩
theorem pieces_calls (A0 : Option Addr) (c0 : Nat) (l0 : List S25) (w : World) (hC0 : Kd.C k25 w A0 l0.length l0) (hlen : l0.length < 4398046511104) :
    Calls Try.prog 29 #[.slice A0 l0.length c0] w fun e w' => ∃ v, e = .returned v ∧ w'.ownsRow w.heap.size 43 2 v (partsL softB l0).length ((partsL softB l0).flatMap encP) ∧ Below w.heap.size w w' := by
  have H1 := Aside0.mk (cuts_calls w w A0 c0 l0 hC0 (Below.refl _ _) hlen 55 softB (enters_of Try.func55 (by kernel_rfl) rfl) soft_calls)
  go_enter Try.func29, Try.ntmps29
  go_wp2_with fail
  refine (parts_calls A0 l0.length c0 55 #[] _).mono ?_
  rintro e w3 ⟨rfl, rfl⟩
  go_wp2_with fail
  refine H1.out.mono ?_
  rintro e w4 ⟨v, rfl, h⟩
  have H := Aside0.mk h
  clear h
  go_wp2
  go_ret
  exact ⟨v, rfl, H.out⟩
def toS43 (p : Nat × Nat) : S43 := ⟨p.1, p.2⟩
theorem reps_cons {α : Type} {R : α → List Value → Prop} {size : Nat} {ps : List α} {cs c : List Value} {p : α} (h : Reps R size ps cs) (hp : R p c) (hc : c.length = size) : Reps R size (p :: ps) (c ++ cs) := by
  refine ⟨by rw [List.length_append, h.1, hc, List.length_cons, Nat.add_mul, Nat.one_mul, Nat.add_comm], fun j q hq => ?_⟩
  cases j with
  | zero =>
    simp at hq
    subst hq
    rw [Nat.zero_mul, List.drop_zero, ← hc, List.take_left]
    exact hp
  | succ j =>
    simp at hq
    have := h.2 j q hq
    rw [Nat.add_mul, Nat.one_mul, Nat.add_comm, ← List.drop_drop, ← hc, List.drop_left, hc]
    exact this
theorem reps43 (w : World) (base : Nat) (ok : Nat → Prop) : ∀ ps : List (Nat × Nat), Reps (k43.M w base ok) 2 (ps.map toS43) (ps.flatMap encP)
  | [] => Reps.none _ _
  | p :: ps => by
    rw [List.map_cons, List.flatMap_cons]
    exact reps_cons (reps43 w base ok ps) (k43_mkM w base ok (toS43 p)) rfl
theorem R43 {w : World} {base : Nat} {v : Value} {ps : List (Nat × Nat)} (h : w.ownsRow base 43 2 v ps.length (ps.flatMap encP)) : Kd.R k43 43 w base (fun _ => True) v (ps.map toS43) :=
  ⟨fun _ _ => trivial, ps.flatMap encP, by rw [List.length_map]; exact h, reps43 _ _ _ ps⟩
def intrinsic_Pieces.f (l : List S25) : Option (List S43) := if l.length < 4398046511104 then some ((partsL softB l).map toS43) else none
theorem intrinsic_Pieces.calls (A0 : Option Addr) (c0 : Nat) (l0 : List S25) (r : List S43) (w : World) (hr0 : Kd.C k25 w A0 l0.length l0) (hc0 : l0.length ≤ c0) (h : intrinsic_Pieces.f l0 = some r) :
    Calls Try.prog 29 #[.slice A0 l0.length c0] w fun e w' => ∃ v0_ : Value, e = .returned v0_ ∧ Kd.R k43 43 w' w.heap.size (fun _ => True) v0_ r ∧ Below w.heap.size w w' := by
  unfold intrinsic_Pieces.f at h
  by_cases hl : l0.length < 4398046511104
  · rw [if_pos hl] at h
    obtain rfl := Option.some.inj h
    refine (pieces_calls A0 c0 l0 w hr0 hl).mono ?_
    rintro e w' ⟨v, rfl, h1, h2⟩
    exact ⟨v, rfl, R43 h1, h2⟩
  · rw [if_neg hl] at h; cases h
end

/-! ### stickfullaw21_head: function 22 -/
-- needs func intrinsic.MinMax intrinsic.Pieces stickfulref21.Same
section
open Go.Proofs.Ytkcmehijmgjgfaa.It Go.Shelf
def enc25 (c : S25) : List Value := [.int .u8 c.f0, .int .i64 c.f1, .int .i64 c.f2, .int .i64 c.f3, .bool c.f4, .bool c.f5]
theorem lit_C_of {α : Type} (d : Kd α) (enc : α → List Value) (W : World) (t : TypeId) (hsz : ∀ x, (enc x).length = d.sz) (hmk : ∀ W x, d.K W x (enc x)) (xs : List α) (hm : xs.length ≤ 9223372036854775807) : Kd.C d (W.alloc (.cells (xs.flatMap enc).toArray t)) (some ⟨W.heap.size, 0, none⟩) xs.length xs := by
  refine ⟨rfl, hm, fun hz => ⟨_, rfl, fun j p hj => ⟨enc p, hsz p, hmk _ p, fun i u hu => ?_⟩⟩⟩
  rw [add_plain]
  refine cell_new ?_
  simp only [List.getElem?_toArray]
  clear hm hz
  induction xs generalizing j with
  | nil => simp at hj
  | cons x xs ih =>
    rw [List.flatMap_cons]
    cases j with
    | zero =>
      simp at hj
      subst hj
      rw [Nat.zero_mul, Nat.zero_add, List.getElem?_append_left (List.getElem?_eq_some_iff.1 hu).1]
      exact hu
    | succ j =>
      simp at hj
      have e : (j + 1) * d.sz + i = (enc x).length + (j * d.sz + i) := by rw [hsz, Nat.add_mul]; omega
      rw [e, List.getElem?_append_right (by omega), Nat.add_sub_cancel_left]
      exact ih j hj
theorem lit25 (W : World) (xs : List S25) (hm : xs.length ≤ 9223372036854775807) : Kd.C k25 (W.alloc (.cells (xs.flatMap enc25).toArray 25)) (some ⟨W.heap.size, 0, none⟩) xs.length xs :=
  lit_C_of k25 enc25 W 25 (fun _ => rfl) (fun W x => k25_mk W x) xs hm
theorem lit25' (W : World) (b : Nat) (xs : List S25) (hb : W.heap.size = b) (hm : xs.length ≤ 9223372036854775807) : Kd.C k25 (W.alloc (.cells (xs.flatMap enc25).toArray 25)) (some ⟨b, 0, none⟩) xs.length xs := by
  subst hb; exact lit25 W xs hm
theorem calls_name {P : Program} {f : FuncId} {args : Array Value} {w : World} {Q : Ending → World → Prop} (h : ∀ W, W = w → Calls P f args W Q) : Calls P f args w Q := h w rfl
def enc43 (c : S43) : List Value := [.int .i64 c.f0, .int .i64 c.f1]
theorem lit43 (W : World) (xs : List S43) (hm : xs.length ≤ 9223372036854775807) : Kd.C k43 (W.alloc (.cells (xs.flatMap enc43).toArray 43)) (some ⟨W.heap.size, 0, none⟩) xs.length xs :=
  lit_C_of k43 enc43 W 43 (fun _ => rfl) (fun W x => k43_mk W x) xs hm
def cellC : S25 := ⟨0, 0, 0, 5, false, false⟩
def cellS : S25 := ⟨1, 0, 0, 5, false, false⟩
def cellSoft : S25 := ⟨0, 0, 0, 5, true, false⟩
def cellForced : S25 := ⟨5, 0, 0, 0, false, false⟩
def cellTab : S25 := ⟨4, 0, 0, -1, false, false⟩
theorem headv1 : intrinsic_MinMax.f [cellC, cellC, cellS, cellSoft] = some (10, 20, 0) := by decide +kernel
theorem headv2 : intrinsic_MinMax.f [cellC, cellS, cellForced, cellSoft, cellC] = some (10, 10, 0) := by decide +kernel
theorem headv3 : intrinsic_MinMax.f [cellS, cellS] = some (0, 0, 0) := by decide +kernel
theorem headv4 : intrinsic_MinMax.f [cellTab] = some (0, 0, 2) := by decide +kernel
theorem headv5 : intrinsic_Pieces.f [cellC, cellC, cellS, cellSoft] = some [⟨0, 3⟩, ⟨3, 4⟩] := by rfl
theorem headv6 : intrinsic_Pieces.f [cellC, cellS, cellForced, cellSoft, cellC] = some [⟨0, 3⟩, ⟨3, 5⟩] := by rfl
def stickfullaw21_head.f : Option Bool := some true
set_option maxRecDepth 100000 in
set_option maxHeartbeats 4000000 in
theorem stickfullaw21_head.calls (r : Bool) (w : World) (h : stickfullaw21_head.f = some r) :
    Calls Try.prog 22 #[] w fun e w' => e = .returned (.bool r) ∧ Below w.heap.size w w' := by
  cases Option.some.inj h
  go_enter Try.func22, Try.ntmps22
  go_wp2_with fail
  refine calls_name ?_
  intro W0 hW0
  have cA : Kd.C k25 W0 (some ⟨w.heap.size + 1 + 1 + 1 + 1, 0, none⟩) 4 [cellC, cellC, cellS, cellSoft] := by
    rw [hW0]
    exact Kd.C_alloc (lit25' _ _ [cellC, cellC, cellS, cellSoft] (by simp) (by decide)) _
  have cB : Kd.C k25 W0 (some ⟨w.heap.size + 1 + 1 + 1 + 1 + 1, 0, none⟩) 5 [cellC, cellS, cellForced, cellSoft, cellC] := by
    rw [hW0]
    exact lit25' _ _ [cellC, cellS, cellForced, cellSoft, cellC] (by simp) (by decide)
  have hs : W0.heap[w.heap.size + 1]? = some (.cells #[.int .u8 1, .int .i64 0, .int .i64 0, .int .i64 5, .bool false, .bool false] 25 (0, 0)) := by
    rw [hW0]
    have q : ∀ (V : World) (o : Obj), V.heap.size = w.heap.size + 1 → (V.alloc o).heap[w.heap.size + 1]? = some o := fun V o h => by rw [← h]; exact World.alloc_heap_new V o
    exact (Below.heap_alloc _ _ _ (by simp; try omega)).trans ((Below.heap_alloc _ _ _ (by simp; try omega)).trans ((Below.heap_alloc _ _ _ (by simp; try omega)).trans ((Below.heap_alloc _ _ _ (by simp; try omega)).trans (q _ _ (by simp)))))
  have hB0 : Below w.heap.size w W0 := by
    rw [hW0]
    exact below_alloc (below_alloc (below_alloc (below_alloc (below_alloc (below_alloc (Below.refl _ _) _) _) _) _) _) _
  clear hW0
  refine (intrinsic_MinMax.calls _ 4 [cellC, cellC, cellS, cellSoft] 10 20 0 _ cA (by decide) headv1).mono ?_
  rintro e w1 ⟨rfl, hb1⟩
  replace cA := Kd.C_below cA hb1
  replace cB := Kd.C_below cB hb1
  replace hs := (Lv.of_below (O := fun _ => False) hb1).heap hs (fun h => h)
  replace hB0 := below_step hB0 hb1
  clear hb1
  go_wp2_with fail
  refine (intrinsic_MinMax.calls _ 5 [cellC, cellS, cellForced, cellSoft, cellC] 10 10 0 _ cB (by decide) headv2).mono ?_
  rintro e w2 ⟨rfl, hb2⟩
  replace cA := Kd.C_below cA hb2
  replace cB := Kd.C_below cB hb2
  replace hs := (Lv.of_below (O := fun _ => False) hb2).heap hs (fun h => h)
  replace hB0 := below_step hB0 hb2
  clear hb2
  have x0 := heap_cellAt (i := 0) hs
  have x1 := heap_cellAt (i := 1) hs
  have x2 := heap_cellAt (i := 2) hs
  have x3 := heap_cellAt (i := 3) hs
  have x4 := heap_cellAt (i := 4) hs
  have x5 := heap_cellAt (i := 5) hs
  simp at x0 x1 x2 x3 x4 x5
  go_wp2_with fail
  refine (intrinsic_MinMax.calls _ 2 [cellS, cellS] 0 0 0 _ (lit25' _ _ [cellS, cellS] rfl (by decide)) (by decide) headv3).mono ?_
  rintro e w3 ⟨rfl, hb3⟩
  replace hb3 := below_step (below_alloc (Below.refl _ _) _) hb3
  replace cA := Kd.C_below cA hb3
  replace cB := Kd.C_below cB hb3
  replace hB0 := below_step hB0 hb3
  clear hb3 x0 x1 x2 x3 x4 x5 hs
  go_wp2_with fail
  refine (intrinsic_MinMax.calls _ 1 [cellTab] 0 0 2 _ (lit25' _ _ [cellTab] rfl (by decide)) (by decide) headv4).mono ?_
  rintro e w4 ⟨rfl, hb4⟩
  replace hb4 := below_step (below_alloc (Below.refl _ _) _) hb4
  replace cA := Kd.C_below cA hb4
  replace cB := Kd.C_below cB hb4
  replace hB0 := below_step hB0 hb4
  clear hb4
  go_wp2_with fail
  refine (intrinsic_Pieces.calls _ 4 [cellC, cellC, cellS, cellSoft] _ _ cA (by decide) headv5).mono ?_
  rintro e w5 ⟨v, rfl, hR, hb5⟩
  obtain ⟨A5, c5, rfl, hle5, hC5⟩ := Kd.R_reads hR
  replace cB := Kd.C_below cB hb5
  replace hB0 := below_step hB0 hb5
  clear hb5 hR
  go_wp2_with fail
  refine (stickfulref21_Same.calls A5 c5 [⟨0, 3⟩, ⟨3, 4⟩] (some ⟨_, 0, none⟩) 2 [⟨0, 3⟩, ⟨3, 4⟩] true _ (Kd.C_alloc hC5 _) hle5 (lit43 _ [⟨0, 3⟩, ⟨3, 4⟩] (by decide)) (by decide) rfl).mono ?_
  rintro e w6 ⟨rfl, hb6⟩
  replace hb6 := below_step (below_alloc (Below.refl _ _) _) hb6
  replace cB := Kd.C_below cB hb6
  replace hB0 := below_step hB0 hb6
  clear hb6 hC5
  go_wp2_with fail
  refine (intrinsic_Pieces.calls _ 5 [cellC, cellS, cellForced, cellSoft, cellC] _ _ cB (by decide) headv6).mono ?_
  rintro e w7 ⟨v, rfl, hR, hb7⟩
  obtain ⟨A7, c7, rfl, hle7, hC7⟩ := Kd.R_reads hR
  replace hB0 := below_step hB0 hb7
  clear hb7 hR
  go_wp2_with fail
  refine (stickfulref21_Same.calls A7 c7 [⟨0, 3⟩, ⟨3, 5⟩] (some ⟨_, 0, none⟩) 2 [⟨0, 3⟩, ⟨3, 5⟩] true _ (Kd.C_alloc hC7 _) hle7 (lit43 _ [⟨0, 3⟩, ⟨3, 5⟩] (by decide)) (by decide) rfl).mono ?_
  rintro e w8 ⟨rfl, hb8⟩
  replace hb8 := below_step (below_alloc (Below.refl _ _) _) hb8
  replace hB0 := below_step hB0 hb8
  clear hb8 hC7 cA cB
  go_wp2
  go_ret
  exact ⟨rfl, hB0⟩
end

/-! ### stickfullaw21_great: function 24 -/
def stickfullaw21_great.f (l0 : List (S25)) : Option (Bool) := some (decide ((l0.length : Int) > 120))
set_option maxHeartbeats 8000000 in
set_option maxRecDepth 100000 in
theorem stickfullaw21_great.calls (A0 : Option Addr) (c0 : Nat) (l0 : List (S25)) (r : Bool) (w : World) (hr0 : Kd.C k25 w A0 l0.length l0) (hc0 : l0.length ≤ c0) (h : stickfullaw21_great.f l0 = some r) :
    Calls Try.prog 24 #[.slice A0 l0.length c0] w fun e w' => e = .returned (.bool r) ∧ Drawn0 w w' := by
  have HR0 := Aside0.mk hr0
  have HC0 := Aside0.mk hc0
  clear hr0 hc0
  have H : (some (decide ((l0.length : Int) > 120))) = some r := h
  clear h
  obtain rfl := Option.some.inj H
  go_enter Try.func24, Try.ntmps24
  go_wp2
  go_ret
  exact ⟨by first | rfl | (simp; done) | (simp [*]; done), by repeat (first | exact Drawn0.refl _ | apply Drawn0.step)⟩

/-! ### intrinsic_Lines: function 27 -/
-- needs func intrinsic.Pieces
section
open Go.Proofs.Ytkcmehijmgjgfaa.It Go.Shelf
def intrinsic_Lines.f (l : List S25) : Option (List S43) := if l.length < 4398046511104 then some ((partsL (fun _ => false) l).map toS43) else none
theorem intrinsic_Lines.calls (A0 : Option Addr) (c0 : Nat) (l0 : List S25) (r : List S43) (w : World) (hr0 : Kd.C k25 w A0 l0.length l0) (hc0 : l0.length ≤ c0) (h : intrinsic_Lines.f l0 = some r) :
    Calls Try.prog 27 #[.slice A0 l0.length c0] w fun e w' => ∃ v0_ : Value, e = .returned v0_ ∧ Kd.R k43 43 w' w.heap.size (fun _ => True) v0_ r ∧ Below w.heap.size w w' := by
  unfold intrinsic_Lines.f at h
  by_cases hl : l0.length < 4398046511104
  · rw [if_pos hl] at h
    obtain rfl := Option.some.inj h
    refine (lines_calls A0 c0 l0 w hr0 hl).mono ?_
    rintro e w' ⟨v, rfl, h1, h2⟩
    exact ⟨v, rfl, R43 h1, h2⟩
  · rw [if_neg hl] at h; cases h
end

end Go.Proofs.Ytkcmehijmgjgfaa.MIntrinsicCuts
