-- Written by a program of this session for this claim.
import Derived.Test.YtkcmehijmgjgfaaMIntrinsicTellsx0
import Derived.Test.YtkcmehijmgjgfaaMIntrinsicTellsx3
import Derived.Test.YtkcmehijmgjgfaaMIntrinsicTellsx4
namespace Go.Proofs.Ytkcmehijmgjgfaa.MIntrinsicTells
open Go.RowKit Go.Proofs.YtkcmehijmgjgfaaW.PrintWords Go.Proofs.YtkcmehijmgjgfaaW.PrintLast Go.Proofs.YtkcmehijmgjgfaaW.PrintMore
attribute [local go_sem] max2_int min2_int max_two min_two max_three min_three max_four min_four   -- for this text's walks alone
set_option linter.unusedVariables false
set_option linter.unusedSimpArgs false

attribute [local irreducible] Go.wpStill Go.wpQuiet
/-! ### intrinsic_Pieces: function 29 -/
-- needs func intrinsic.MinMax
section
open Go.Proofs.Ytkcmehijmgjgfaa.It Go.Shelf
attribute [local go_sem] Oper.semAt_some
/-- A box B holds a slice that owns xs, of several cells each, in a block of Og. -/
def CollN {α : Type} (b0 B t e sz : Nat) (Og : Nat → Prop) (enc : α → List Value) (xs : List α) (W : World) : Prop :=
  ∃ v, Boxed W B t v ∧ W.ownsRow b0 e sz v xs.length (xs.flatMap enc) ∧ ∀ g, v.ownBlock = some g → Og g
theorem CollN.lv {α : Type} {b0 b t e sz : Nat} {Og O : Nat → Prop} {enc : α → List Value} {xs : List α} {A B : World} (h : CollN b0 b t e sz Og enc xs A) (hl : Lv O A B) (hb : ¬ O b) (hO : ∀ g, Og g → ¬ O g) : CollN b0 b t e sz Og enc xs B := by
  obtain ⟨v, h1, h2, h3⟩ := h
  exact ⟨v, boxed_lv hl h1 hb, own_lv hl h2 (fun g hg => hO g (h3 g hg)), h3⟩
theorem collN_nil {α : Type} {b0 B t e sz : Nat} {Og : Nat → Prop} {enc : α → List Value} {W : World} (hv : Boxed W B t (.slice none 0 0)) : CollN b0 B t e sz Og enc [] W :=
  ⟨_, hv, World.ownsRow_nil _ _ _ _, fun k hk => by cases hk⟩
theorem collN_appended {α : Type} {W w1 : World} {b0 B t e sz : Nat} {Og Ob : Nat → Prop} {enc : α → List Value} {xs : List α} {x : α} {v v' : Value} {tmp : Obj}
    (hv : Boxed W B t v) (hte : t ≠ e) (hrow : W.ownsRow b0 e sz v xs.length (xs.flatMap enc)) (hO : ∀ g, v.ownBlock = some g → Og g) (hnew : ∀ g, W.heap.size ≤ g → Og g) (hb0 : b0 ≤ W.heap.size) (hB : b0 ≤ B)
    (hown' : w1.ownsRow b0 e sz v' (xs.length + 1) (xs.flatMap enc ++ enc x)) (hgrow : (W.alloc tmp).grownBy w1 v.ownBlock) (hat : v'.ownBlock = v.ownBlock ∨ v'.ownBlock = some (W.alloc tmp).heap.size) (hOb : ∀ g, Og g → Ob g) (hObB : Ob B) :
    CollN b0 B t e sz Og enc (xs ++ [x]) (w1.setCell ⟨B, 0, none⟩ v') ∧ Lv Ob W (w1.setCell ⟨B, 0, none⟩ v') ∧ Below b0 W (w1.setCell ⟨B, 0, none⟩ v') := by
  obtain ⟨hv1, hv2, hr2, _, hb2⟩ := hv.appended hte hrow hb0 hB hown' hgrow
  refine ⟨⟨v', hv2, by simpa using hr2, fun g hg => ?_⟩, ?_, hb2⟩
  · rcases hat with h | h
    · exact hO g (h ▸ hg)
    · rw [h] at hg
      cases hg
      exact hnew _ (by simp)
  · exact ((Lv.alloc Ob W tmp).trans (Lv.grown hgrow (fun k hk => hOb k (hO k hk)))).trans (Lv.setCell _ hObB)
theorem cell_two_new (w : World) (x y : Value) (t : TypeId) : ∀ j u, [x, y][j]? = some u → (w.alloc (.cells #[x, y] t)).cell? ((⟨w.heap.size, 0, none⟩ : Addr).add j) = some u := by
  intro j u hj
  rw [add_plain]
  refine cell_new ?_
  simpa using hj
theorem infoA43 : (Try.prog.info? 43).map (fun i => (i.zero, i.size, i.bytes)) = some (some (.agg #[.int .i64 0, .int .i64 0]), 2, 16) := by kernel_rfl
def encP (p : Nat × Nat) : List Value := [.int .i64 (p.1 : Int), .int .i64 (p.2 : Int)]
def seqT (w : World) (lb : Array Value) (p : Nat × Nat) (b : Nat) : Act :=
  { tmps := #[.slice none 0 0, .func (.func 89) #[] lb, .pointer (some ⟨w.heap.size, 0, none⟩), undef, .slice none 0 0, .pointer (some ⟨b, 0, none⟩), .func (.func 89) #[] lb, .agg #[.int .i64 (p.1 : Int), .int .i64 (p.2 : Int)], undef, undef, undef, undef, undef], defers := [] }
structure SeqA (w : World) (D : Nat) (lb : Array Value) (ps : List (Nat × Nat)) (k : Nat) (a' : Act) (W : World) : Prop where
  ex : ∃ b p, ps[k]? = some p ∧ b ≠ D ∧ b ≠ D + 1 ∧ W.heap[b]? = some (.cells #[.int .i64 (p.1 : Int), .int .i64 (p.2 : Int)] 43 (0, 0)) ∧ a' = seqT w lb p b
structure SeqI (w : World) (D : Nat) (ps : List (Nat × Nat)) (k : Nat) (W : World) : Prop where
  coll : CollN w.heap.size w.heap.size 40 43 2 (fun g => D + 2 ≤ g) encP (ps.take k) W
  below : Below w.heap.size w W

set_option maxRecDepth 100000 in
set_option maxHeartbeats 4000000 in
theorem appendSeq_calls (w : World) (lb : Array Value) (ps : List (Nat × Nat)) (hpl : ps.length < 4398046511104)
    (hseq : ∀ W Oc, Below w.heap.size w W → (∀ i, i < w.heap.size → ¬ Oc i) → Seq 3 Try.prog 89 lb (ps.map encPart') (fun _ => False) Oc W) :
    Calls Try.prog 90 #[.slice none 0 0, .func (.func 89) #[] lb] w fun e w' => ∃ v, e = .returned v ∧ w'.ownsRow w.heap.size 43 2 v ps.length (ps.flatMap encP) ∧ Below w.heap.size w w' := by
  have HS := Aside0.mk hseq
  have HPL := Aside0.mk hpl
  clear hseq hpl
  refine (callsIn_wide (n := 7)).1 (callsIn_of_wp_marks Try.func90 rfl trivial ?_ rfl)
  refine wpIn_wide.2 ?_
  simp only [Try.ntmps90, List.size_toArray, List.length_cons, List.length_nil, Nat.reduceAdd, Nat.reduceSub, Array.replicate_succ, Array.replicate_zero, List.push_toArray, List.append_toArray, List.nil_append, List.cons_append]
  go_wp2
  refine wp_name ?_
  intro W0 hW0
  have hsz : W0.heap.size = w.heap.size + 1 := by rw [hW0]; simp
  have b2 : Boxed W0 w.heap.size 40 (.slice none 0 0) := by rw [hW0]; exact boxed_at rfl
  have hB0 : Below w.heap.size w W0 := by rw [hW0]; exact below_alloc (Below.refl _ _) _
  have hsz1 : W0.heap.size ≤ w.heap.size + 1 := by omega
  have hsz2 : w.heap.size + 1 ≤ W0.heap.size := by omega
  clear hW0 hsz
  apply wp_rangedX (m := 3) (gf := 89) (lb := lb) (by simp [go_sem]) (enters_of Try.func89 (by kernel_rfl) rfl)
    ps encPart' (fun _ _ => rfl) (fun _ => False) (fun i => i = w.heap.size ∨ W0.heap.size + 2 ≤ i) ⟨by omega, by omega⟩ (fun _ h => h.elim)
    (HS.out W0 _ hB0 (by intro i hi; omega))
    (SeqI w W0.heap.size ps) (fun _ _ _ => False) ?hI ?hIx ?h0 (SeqA w W0.heap.size lb ps) ?hAx ?assign ?body ?done ?stop
  case hI =>
    rintro k A B ⟨hC, hB⟩ hl
    exact ⟨hC.lv hl (by rintro (h | h | h) <;> omega) (fun g hg => by rintro (h | h | h) <;> omega), hB.trans (hl.below hB.size (fun i hi => by rintro (h | h | h) <;> omega))⟩
  case hIx => intro c k A B h _; exact h
  case h0 => exact ⟨collN_nil b2, hB0⟩
  case hAx =>
    rintro k a' A B ⟨b, p, hp, h2, h3, h4, h5⟩ hl
    exact ⟨b, p, hp, h2, h3, hl.heap h4 (by omega), h5⟩
  case assign =>
    intro l k hk W K hWl hI hK
    have HK := Aside0.mk hK
    clear hK
    obtain ⟨p, hp⟩ : ∃ p, p = ps[k] := ⟨_, rfl⟩
    have HP := Aside0.mk hp
    rw [← hp]
    clear hp
    unfold encPart'
    gi_wp2
    obtain ⟨hC, hB⟩ := hI
    refine HK.out _ _ (Lv.alloc _ _ _) ⟨hC.lv (O := fun _ => False) (Lv.alloc _ _ _) (fun h => h) (fun _ _ h => h), below_alloc hB _⟩ ⟨W.heap.size, p, ?_, by omega, by omega, World.alloc_heap_new _ _, rfl⟩
    rw [HP.out]; exact List.getElem?_eq_getElem hk
  case body =>
    rintro l k hk a' W hD ⟨rL, hL⟩ ⟨⟨v, bv, hrow, hOg⟩, hB⟩ ⟨b, p, hp, hb2, hb3, hbx, rfl⟩
    have hW2 : W0.heap.size + 1 < W.heap.size := (Array.getElem?_eq_some_iff.1 hL).1
    have hp' : ps[k] = p := by rw [List.getElem?_eq_getElem hk] at hp; exact Option.some.inj hp
    have HP := Aside0.mk hp'
    have l6 : w.heap.size < W.heap.size := by omega
    obtain ⟨ys, hys⟩ : ∃ ys, ys = ps.take k := ⟨_, rfl⟩
    rw [← hys] at hrow
    have hlk : ys.length = k := by rw [hys]; simp; omega
    have HYS := Aside0.mk hys
    have HLK := Aside0.mk hlk
    have hk2 : k < 4398046511104 := by have := HPL.out; omega
    clear hys hlk hp hp' hD hL
    have gv := bv.cell
    have x0 := heap_cellAt (i := 0) hbx
    have x1 := heap_cellAt (i := 1) hbx
    simp at x0 x1
    obtain ⟨i0, hi, hz0, hz1, hz2⟩ := info_parts infoA43
    unfold seqT
    gi_wp2_with (gi_at_builtin; refine wpListIn_append_own_at _ rfl _ _ 40 rfl w.heap.size 43 i0 (.agg #[.int .i64 0, .int .i64 0]) 2 16 Try.underlying40 hi hz0 hz1 hz2 rfl (by decide) _ _ _ rfl (hrow.alloc _) ⟨W.heap.size, 0, none⟩ 1 1 [.int .i64 (p.1 : Int), .int .i64 (p.2 : Int)] rfl rfl (cell_two_new _ _ _ _) (by simp [Value.oneCell']) (by rw [HLK.out]; simp only [maxLen]; omega) (by rw [HLK.out]; omega) (by simp; omega) ?_; intro v' w1 hown' hgrow _ hat; obtain ⟨g', cap', rfl⟩ := ownsRow_succ hown'; have HAP := Aside0.mk (collN_appended (x := p) (Ob := fun i => i = w.heap.size ∨ W0.heap.size + 2 ≤ i) bv (by decide) hrow hOg (fun g hg => by omega) (by omega) (by omega) hown' hgrow hat (fun g hg => .inr hg) (.inl rfl)); have HG := Aside0.mk (bv.not_row (by decide) hrow); have bv1 := (bv.alloc _).kept hgrow HG.out; have hc1 := bv1.cell; have hf1 := bv1.frozen; clear hown' hgrow hat)
    refine ⟨HAP.out.2.1, ?_, hB.trans HAP.out.2.2⟩
    have h := HAP.out.1
    rw [List.take_succ_eq_append_getElem hk, HP.out]
    obtain rfl := HYS.out
    exact h
  case done =>
    rintro W ⟨⟨v, bv, hrow, hOg⟩, hB⟩ hD
    rw [List.take_length] at hrow
    have hDl : W0.heap.size < W.heap.size := (Array.getElem?_eq_some_iff.1 hD).1
    have gv := bv.cell
    go_wp2
    refine ⟨by simp, .inl ⟨W0.heap.size, _, rfl, run_takeDeferred hD, ?_⟩⟩
    have hL4 := Lv.putObj (O := fun i => i = W0.heap.size) (A := W) (.deferred none) rfl
    refine ⟨v, by simp [results, Try.f90, go_sem], _, rfl, own_lv hL4 hrow (fun g hg => by have := hOg g hg; omega), hB.trans (hL4.below (by omega) (fun i hi => by omega))⟩
  case stop => intro c k W _ h; exact h.elim
theorem collect_calls (w : World) (lb : Array Value) (ps : List (Nat × Nat)) (hpl : ps.length < 4398046511104)
    (hseq : ∀ W Oc, Below w.heap.size w W → (∀ i, i < w.heap.size → ¬ Oc i) → Seq 3 Try.prog 89 lb (ps.map encPart') (fun _ => False) Oc W) :
    Calls Try.prog 58 #[.func (.func 89) #[] lb] w fun e w' => ∃ v, e = .returned v ∧ w'.ownsRow w.heap.size 43 2 v ps.length (ps.flatMap encP) ∧ Below w.heap.size w w' := by
  have HC := Aside0.mk (appendSeq_calls w lb ps hpl hseq)
  clear hseq
  go_enter Try.func58, Try.ntmps58
  go_wp2_with fail
  refine HC.out.mono ?_
  rintro e w1 ⟨v, rfl, h⟩
  have H := Aside0.mk h
  clear h
  go_wp2
  go_ret
  exact ⟨v, rfl, H.out⟩
theorem partsGo_length (cut : S25 → Bool) : ∀ (l : List S25) (s i : Nat), (partsGo cut s i l).length ≤ l.length
  | [], s, i => by simp [partsGo]
  | [c], s, i => by simp [partsGo]
  | c :: d :: l, s, i => by
    rw [partsGo]
    have h1 := partsGo_length cut (d :: l) (i + 1) (i + 1)
    have h2 := partsGo_length cut (d :: l) s (i + 1)
    simp only [List.length_cons] at h1 h2 ⊢
    split
    · simp only [List.length_cons]; omega
    · omega
theorem partsL_length (cut : S25 → Bool) (l : List S25) : (partsL cut l).length ≤ l.length := partsGo_length cut l 0 0
theorem ownsRow_lower {W : World} {b b' : Nat} {e : TypeId} {size n : Nat} {v : Value} {xs : List Value} (h : W.ownsRow b e size v n xs) (hb : b' ≤ b) : W.ownsRow b' e size v n xs := by
  obtain ⟨h1, h2⟩ := h
  refine ⟨h1, ?_⟩
  rcases h2 with h2 | ⟨g, cap, cur, rfl, hg, r⟩
  · exact .inl h2
  · exact .inr ⟨g, cap, cur, rfl, by omega, r⟩
/-- Both lists of cuts: what is laid, collected. -/
theorem cuts_calls (w W : World) (A0 : Option Addr) (c0 : Nat) (l0 : List S25) (hC0 : Kd.C k25 w A0 l0.length l0) (hb : Below w.heap.size w W) (hlen : l0.length < 4398046511104)
    (fid : Nat) (cut : S25 → Bool) (eg : ∀ args w, (callFunc fid args).run Try.prog w = .ok (.enter fid args) w)
    (hp : ∀ c W, Calls Try.prog fid (#[encC c] ++ #[]) W fun e W' => e = .returned (.bool (cut c)) ∧ Below W.heap.size W W') :
    Calls Try.prog 58 #[.func (.func 89) #[] #[.pointer (some ⟨W.heap.size, 0, none⟩), .pointer (some ⟨W.heap.size + 1, 0, none⟩)]]
      ((W.alloc (.cells #[.slice A0 l0.length c0] 22)).alloc (.cells #[.func (.func fid) #[] #[]] 94)) fun e w' => ∃ v, e = .returned v ∧ w'.ownsRow w.heap.size 43 2 v (partsL cut l0).length ((partsL cut l0).flatMap encP) ∧ Below w.heap.size w w' := by
  obtain ⟨W2, hW2⟩ : ∃ W2, W2 = (W.alloc (.cells #[.slice A0 l0.length c0] 22)).alloc (.cells #[.func (.func fid) #[] #[]] 94) := ⟨_, rfl⟩
  have b1 : Boxed W2 W.heap.size 22 (.slice A0 l0.length c0) := by rw [hW2]; exact (boxed_at rfl).alloc _
  have b2 : Boxed W2 (W.heap.size + 1) 94 (.func (.func fid) #[] #[]) := by rw [hW2]; exact boxed_at (by simp)
  have hsz : W2.heap.size = W.heap.size + 2 := by rw [hW2]; simp
  have hB : Below w.heap.size w W2 := by rw [hW2]; exact below_alloc (below_alloc hb _) _
  have hbs := hb.size
  rw [← hW2]
  have hS := partsL_S cut l0
  have hk : ∀ W', Below W2.heap.size W2 W' → Below w.heap.size w W' := fun W' h => below_step hB h
  refine (collect_calls W2 _ (partsL cut l0) (Nat.lt_of_le_of_lt (partsL_length cut l0) hlen) ?_).mono ?_
  · intro W' Oc h hO
    have q := fun {b t v} (hx : Boxed W2 b t v) => boxed_lv (Lv.of_below (O := fun _ => False) h) hx (fun h => h)
    exact parts_seq 2 w W' (hk W' h) A0 c0 l0 fid #[] hC0 W.heap.size (W.heap.size + 1) (q b1) (q b2) Oc (hO _ (by omega)) (hO _ (by omega)) (fun i hi => hO i (by omega)) cut eg hp _ hS (by omega)
  · rintro e w' ⟨v, rfl, h1, h2⟩
    exact ⟨v, rfl, ownsRow_lower h1 (by omega), hk w' h2⟩
theorem lines_calls (A0 : Option Addr) (c0 : Nat) (l0 : List S25) (w : World) (hC0 : Kd.C k25 w A0 l0.length l0) (hlen : l0.length < 4398046511104) :
    Calls Try.prog 27 #[.slice A0 l0.length c0] w fun e w' => ∃ v, e = .returned v ∧ w'.ownsRow w.heap.size 43 2 v (partsL (fun _ => false) l0).length ((partsL (fun _ => false) l0).flatMap encP) ∧ Below w.heap.size w w' := by
  have H1 := Aside0.mk (cuts_calls w w A0 c0 l0 hC0 (Below.refl _ _) hlen 56 (fun _ => false) (enters_of Try.func56 (by kernel_rfl) rfl) never_calls)
  go_enter Try.func27, Try.ntmps27
  go_wp2_with fail
  refine (parts_calls A0 l0.length c0 56 #[] _).mono ?_
  rintro e w3 ⟨rfl, rfl⟩
  go_wp2_with fail
  refine H1.out.mono ?_
  rintro e w4 ⟨v, rfl, h⟩
  have H := Aside0.mk h
  clear h
  go_wp2
  go_ret
  exact ⟨v, rfl, H.out⟩
theorem pieces_calls (A0 : Option Addr) (c0 : Nat) (l0 : List S25) (w : World) (hC0 : Kd.C k25 w A0 l0.length l0) (hlen : l0.length < 4398046511104) :
    Calls Try.prog 29 #[.slice A0 l0.length c0] w fun e w' => ∃ v, e = .returned v ∧ w'.ownsRow w.heap.size 43 2 v (partsL softB l0).length ((partsL softB l0).flatMap encP) ∧ Below w.heap.size w w' := by
  have H1 := Aside0.mk (cuts_calls w w A0 c0 l0 hC0 (Below.refl _ _) hlen 55 softB (enters_of Try.func55 (by kernel_rfl) rfl) soft_calls)
  go_enter Try.func29, Try.ntmps29
  go_wp2_with fail
  refine (parts_calls A0 l0.length c0 55 #[] _).mono ?_
  rintro e w3 ⟨rfl, rfl⟩
  go_wp2_with fail
  refine H1.out.mono ?_
  rintro e w4 ⟨v, rfl, h⟩
  have H := Aside0.mk h
  clear h
  go_wp2
  go_ret
  exact ⟨v, rfl, H.out⟩
def toS43 (p : Nat × Nat) : S43 := ⟨p.1, p.2⟩
theorem reps_cons {α : Type} {R : α → List Value → Prop} {size : Nat} {ps : List α} {cs c : List Value} {p : α} (h : Reps R size ps cs) (hp : R p c) (hc : c.length = size) : Reps R size (p :: ps) (c ++ cs) := by
  refine ⟨by rw [List.length_append, h.1, hc, List.length_cons, Nat.add_mul, Nat.one_mul, Nat.add_comm], fun j q hq => ?_⟩
  cases j with
  | zero =>
    simp at hq
    subst hq
    rw [Nat.zero_mul, List.drop_zero, ← hc, List.take_left]
    exact hp
  | succ j =>
    simp at hq
    have := h.2 j q hq
    rw [Nat.add_mul, Nat.one_mul, Nat.add_comm, ← List.drop_drop, ← hc, List.drop_left, hc]
    exact this
theorem reps43 (w : World) (base : Nat) (ok : Nat → Prop) : ∀ ps : List (Nat × Nat), Reps (k43.M w base ok) 2 (ps.map toS43) (ps.flatMap encP)
  | [] => Reps.none _ _
  | p :: ps => by
    rw [List.map_cons, List.flatMap_cons]
    exact reps_cons (reps43 w base ok ps) (k43_mkM w base ok (toS43 p)) rfl
theorem R43 {w : World} {base : Nat} {v : Value} {ps : List (Nat × Nat)} (h : w.ownsRow base 43 2 v ps.length (ps.flatMap encP)) : Kd.R k43 43 w base (fun _ => True) v (ps.map toS43) :=
  ⟨fun _ _ => trivial, ps.flatMap encP, by rw [List.length_map]; exact h, reps43 _ _ _ ps⟩
def intrinsic_Pieces.f (l : List S25) : Option (List S43) := if l.length < 4398046511104 then some ((partsL softB l).map toS43) else none
theorem intrinsic_Pieces.calls (A0 : Option Addr) (c0 : Nat) (l0 : List S25) (r : List S43) (w : World) (hr0 : Kd.C k25 w A0 l0.length l0) (hc0 : l0.length ≤ c0) (h : intrinsic_Pieces.f l0 = some r) :
    Calls Try.prog 29 #[.slice A0 l0.length c0] w fun e w' => ∃ v0_ : Value, e = .returned v0_ ∧ Kd.R k43 43 w' w.heap.size (fun _ => True) v0_ r ∧ Below w.heap.size w w' := by
  unfold intrinsic_Pieces.f at h
  by_cases hl : l0.length < 4398046511104
  · rw [if_pos hl] at h
    obtain rfl := Option.some.inj h
    refine (pieces_calls A0 c0 l0 w hr0 hl).mono ?_
    rintro e w' ⟨v, rfl, h1, h2⟩
    exact ⟨v, rfl, R43 h1, h2⟩
  · rw [if_neg hl] at h; cases h
end

/-! ### stickfullaw21_head: function 22 -/
-- needs func intrinsic.MinMax intrinsic.Pieces stickfulref21.Same
section
open Go.Proofs.Ytkcmehijmgjgfaa.It Go.Shelf
def enc25 (c : S25) : List Value := [.int .u8 c.f0, .int .i64 c.f1, .int .i64 c.f2, .int .i64 c.f3, .bool c.f4, .bool c.f5]
theorem lit_C_of {α : Type} (d : Kd α) (enc : α → List Value) (W : World) (t : TypeId) (hsz : ∀ x, (enc x).length = d.sz) (hmk : ∀ W x, d.K W x (enc x)) (xs : List α) (hm : xs.length ≤ 9223372036854775807) : Kd.C d (W.alloc (.cells (xs.flatMap enc).toArray t)) (some ⟨W.heap.size, 0, none⟩) xs.length xs := by
  refine ⟨rfl, hm, fun hz => ⟨_, rfl, fun j p hj => ⟨enc p, hsz p, hmk _ p, fun i u hu => ?_⟩⟩⟩
  rw [add_plain]
  refine cell_new ?_
  simp only [List.getElem?_toArray]
  clear hm hz
  induction xs generalizing j with
  | nil => simp at hj
  | cons x xs ih =>
    rw [List.flatMap_cons]
    cases j with
    | zero =>
      simp at hj
      subst hj
      rw [Nat.zero_mul, Nat.zero_add, List.getElem?_append_left (List.getElem?_eq_some_iff.1 hu).1]
      exact hu
    | succ j =>
      simp at hj
      have e : (j + 1) * d.sz + i = (enc x).length + (j * d.sz + i) := by rw [hsz, Nat.add_mul]; omega
      rw [e, List.getElem?_append_right (by omega), Nat.add_sub_cancel_left]
      exact ih j hj
theorem lit25 (W : World) (xs : List S25) (hm : xs.length ≤ 9223372036854775807) : Kd.C k25 (W.alloc (.cells (xs.flatMap enc25).toArray 25)) (some ⟨W.heap.size, 0, none⟩) xs.length xs :=
  lit_C_of k25 enc25 W 25 (fun _ => rfl) (fun W x => k25_mk W x) xs hm
theorem lit25' (W : World) (b : Nat) (xs : List S25) (hb : W.heap.size = b) (hm : xs.length ≤ 9223372036854775807) : Kd.C k25 (W.alloc (.cells (xs.flatMap enc25).toArray 25)) (some ⟨b, 0, none⟩) xs.length xs := by
  subst hb; exact lit25 W xs hm
theorem calls_name {P : Program} {f : FuncId} {args : Array Value} {w : World} {Q : Ending → World → Prop} (h : ∀ W, W = w → Calls P f args W Q) : Calls P f args w Q := h w rfl
def enc43 (c : S43) : List Value := [.int .i64 c.f0, .int .i64 c.f1]
theorem lit43 (W : World) (xs : List S43) (hm : xs.length ≤ 9223372036854775807) : Kd.C k43 (W.alloc (.cells (xs.flatMap enc43).toArray 43)) (some ⟨W.heap.size, 0, none⟩) xs.length xs :=
  lit_C_of k43 enc43 W 43 (fun _ => rfl) (fun W x => k43_mk W x) xs hm
def cellC : S25 := ⟨0, 0, 0, 5, false, false⟩
def cellS : S25 := ⟨1, 0, 0, 5, false, false⟩
def cellSoft : S25 := ⟨0, 0, 0, 5, true, false⟩
def cellForced : S25 := ⟨5, 0, 0, 0, false, false⟩
def cellTab : S25 := ⟨4, 0, 0, -1, false, false⟩
theorem headv1 : intrinsic_MinMax.f [cellC, cellC, cellS, cellSoft] = some (10, 20, 0) := by decide +kernel
theorem headv2 : intrinsic_MinMax.f [cellC, cellS, cellForced, cellSoft, cellC] = some (10, 10, 0) := by decide +kernel
theorem headv3 : intrinsic_MinMax.f [cellS, cellS] = some (0, 0, 0) := by decide +kernel
theorem headv4 : intrinsic_MinMax.f [cellTab] = some (0, 0, 2) := by decide +kernel
theorem headv5 : intrinsic_Pieces.f [cellC, cellC, cellS, cellSoft] = some [⟨0, 3⟩, ⟨3, 4⟩] := by rfl
theorem headv6 : intrinsic_Pieces.f [cellC, cellS, cellForced, cellSoft, cellC] = some [⟨0, 3⟩, ⟨3, 5⟩] := by rfl
def stickfullaw21_head.f : Option Bool := some true
set_option maxRecDepth 100000 in
set_option maxHeartbeats 4000000 in
theorem stickfullaw21_head.calls (r : Bool) (w : World) (h : stickfullaw21_head.f = some r) :
    Calls Try.prog 22 #[] w fun e w' => e = .returned (.bool r) ∧ Below w.heap.size w w' := by
  cases Option.some.inj h
  go_enter Try.func22, Try.ntmps22
  go_wp2_with fail
  refine calls_name ?_
  intro W0 hW0
  have cA : Kd.C k25 W0 (some ⟨w.heap.size + 1 + 1 + 1 + 1, 0, none⟩) 4 [cellC, cellC, cellS, cellSoft] := by
    rw [hW0]
    exact Kd.C_alloc (lit25' _ _ [cellC, cellC, cellS, cellSoft] (by simp) (by decide)) _
  have cB : Kd.C k25 W0 (some ⟨w.heap.size + 1 + 1 + 1 + 1 + 1, 0, none⟩) 5 [cellC, cellS, cellForced, cellSoft, cellC] := by
    rw [hW0]
    exact lit25' _ _ [cellC, cellS, cellForced, cellSoft, cellC] (by simp) (by decide)
  have hs : W0.heap[w.heap.size + 1]? = some (.cells #[.int .u8 1, .int .i64 0, .int .i64 0, .int .i64 5, .bool false, .bool false] 25 (0, 0)) := by
    rw [hW0]
    have q : ∀ (V : World) (o : Obj), V.heap.size = w.heap.size + 1 → (V.alloc o).heap[w.heap.size + 1]? = some o := fun V o h => by rw [← h]; exact World.alloc_heap_new V o
    exact (Below.heap_alloc _ _ _ (by simp; try omega)).trans ((Below.heap_alloc _ _ _ (by simp; try omega)).trans ((Below.heap_alloc _ _ _ (by simp; try omega)).trans ((Below.heap_alloc _ _ _ (by simp; try omega)).trans (q _ _ (by simp)))))
  have hB0 : Below w.heap.size w W0 := by
    rw [hW0]
    exact below_alloc (below_alloc (below_alloc (below_alloc (below_alloc (below_alloc (Below.refl _ _) _) _) _) _) _) _
  clear hW0
  refine (intrinsic_MinMax.calls _ 4 [cellC, cellC, cellS, cellSoft] 10 20 0 _ cA (by decide) headv1).mono ?_
  rintro e w1 ⟨rfl, hb1⟩
  replace cA := Kd.C_below cA hb1
  replace cB := Kd.C_below cB hb1
  replace hs := (Lv.of_below (O := fun _ => False) hb1).heap hs (fun h => h)
  replace hB0 := below_step hB0 hb1
  clear hb1
  go_wp2_with fail
  refine (intrinsic_MinMax.calls _ 5 [cellC, cellS, cellForced, cellSoft, cellC] 10 10 0 _ cB (by decide) headv2).mono ?_
  rintro e w2 ⟨rfl, hb2⟩
  replace cA := Kd.C_below cA hb2
  replace cB := Kd.C_below cB hb2
  replace hs := (Lv.of_below (O := fun _ => False) hb2).heap hs (fun h => h)
  replace hB0 := below_step hB0 hb2
  clear hb2
  have x0 := heap_cellAt (i := 0) hs
  have x1 := heap_cellAt (i := 1) hs
  have x2 := heap_cellAt (i := 2) hs
  have x3 := heap_cellAt (i := 3) hs
  have x4 := heap_cellAt (i := 4) hs
  have x5 := heap_cellAt (i := 5) hs
  simp at x0 x1 x2 x3 x4 x5
  go_wp2_with fail
  refine (intrinsic_MinMax.calls _ 2 [cellS, cellS] 0 0 0 _ (lit25' _ _ [cellS, cellS] rfl (by decide)) (by decide) headv3).mono ?_
  rintro e w3 ⟨rfl, hb3⟩
  replace hb3 := below_step (below_alloc (Below.refl _ _) _) hb3
  replace cA := Kd.C_below cA hb3
  replace cB := Kd.C_below cB hb3
  replace hB0 := below_step hB0 hb3
  clear hb3 x0 x1 x2 x3 x4 x5 hs
  go_wp2_with fail
  refine (intrinsic_MinMax.calls _ 1 [cellTab] 0 0 2 _ (lit25' _ _ [cellTab] rfl (by decide)) (by decide) headv4).mono ?_
  rintro e w4 ⟨rfl, hb4⟩
  replace hb4 := below_step (below_alloc (Below.refl _ _) _) hb4
  replace cA := Kd.C_below cA hb4
  replace cB := Kd.C_below cB hb4
  replace hB0 := below_step hB0 hb4
  clear hb4
  go_wp2_with fail
  refine (intrinsic_Pieces.calls _ 4 [cellC, cellC, cellS, cellSoft] _ _ cA (by decide) headv5).mono ?_
  rintro e w5 ⟨v, rfl, hR, hb5⟩
  obtain ⟨A5, c5, rfl, hle5, hC5⟩ := Kd.R_reads hR
  replace cB := Kd.C_below cB hb5
  replace hB0 := below_step hB0 hb5
  clear hb5 hR
  go_wp2_with fail
  refine (stickfulref21_Same.calls A5 c5 [⟨0, 3⟩, ⟨3, 4⟩] (some ⟨_, 0, none⟩) 2 [⟨0, 3⟩, ⟨3, 4⟩] true _ (Kd.C_alloc hC5 _) hle5 (lit43 _ [⟨0, 3⟩, ⟨3, 4⟩] (by decide)) (by decide) rfl).mono ?_
  rintro e w6 ⟨rfl, hb6⟩
  replace hb6 := below_step (below_alloc (Below.refl _ _) _) hb6
  replace cB := Kd.C_below cB hb6
  replace hB0 := below_step hB0 hb6
  clear hb6 hC5
  go_wp2_with fail
  refine (intrinsic_Pieces.calls _ 5 [cellC, cellS, cellForced, cellSoft, cellC] _ _ cB (by decide) headv6).mono ?_
  rintro e w7 ⟨v, rfl, hR, hb7⟩
  obtain ⟨A7, c7, rfl, hle7, hC7⟩ := Kd.R_reads hR
  replace hB0 := below_step hB0 hb7
  clear hb7 hR
  go_wp2_with fail
  refine (stickfulref21_Same.calls A7 c7 [⟨0, 3⟩, ⟨3, 5⟩] (some ⟨_, 0, none⟩) 2 [⟨0, 3⟩, ⟨3, 5⟩] true _ (Kd.C_alloc hC7 _) hle7 (lit43 _ [⟨0, 3⟩, ⟨3, 5⟩] (by decide)) (by decide) rfl).mono ?_
  rintro e w8 ⟨rfl, hb8⟩
  replace hb8 := below_step (below_alloc (Below.refl _ _) _) hb8
  replace hB0 := below_step hB0 hb8
  clear hb8 hC7 cA cB
  go_wp2
  go_ret
  exact ⟨rfl, hB0⟩
end

/-! ### stickfullaw21_great: function 24 -/
def stickfullaw21_great.f (l0 : List (S25)) : Option (Bool) := some (decide ((l0.length : Int) > 120))
set_option maxHeartbeats 8000000 in
set_option maxRecDepth 100000 in
theorem stickfullaw21_great.calls (A0 : Option Addr) (c0 : Nat) (l0 : List (S25)) (r : Bool) (w : World) (hr0 : Kd.C k25 w A0 l0.length l0) (hc0 : l0.length ≤ c0) (h : stickfullaw21_great.f l0 = some r) :
    Calls Try.prog 24 #[.slice A0 l0.length c0] w fun e w' => e = .returned (.bool r) ∧ Drawn0 w w' := by
  have HR0 := Aside0.mk hr0
  have HC0 := Aside0.mk hc0
  clear hr0 hc0
  have H : (some (decide ((l0.length : Int) > 120))) = some r := h
  clear h
  obtain rfl := Option.some.inj H
  go_enter Try.func24, Try.ntmps24
  go_wp2
  go_ret
  exact ⟨by first | rfl | (simp; done) | (simp [*]; done), by repeat (first | exact Drawn0.refl _ | apply Drawn0.step)⟩

/-! ### stickfulref21_Cuts: function 28 -/
mutual
def stickfulref21_Cuts.l0 : Nat → List (S25) → Bool → List (S43) → Int → Bool → Int → Option ((List (S43)))
  | 0, _, _, _, _, _, _ => none
  | k + 1, x0, x1, x5, x6, x7, x8 => if x8 < (x0.length : Int) then (if x7 = true then (stickfulref21_Cuts.j1 k x0 x1 x5 x6 x8 false) else (if x1 = true then (if 0 ≤ x8 then (if (rd_T25 x0 x8).f4 = true then (stickfulref21_Cuts.j1 k x0 x1 x5 x6 x8 true) else (stickfulref21_Cuts.j1 k x0 x1 x5 x6 x8 ((rd_T25 x0 x8).f5))) else (none)) else (stickfulref21_Cuts.j1 k x0 x1 x5 x6 x8 false))) else (if x6 < (x0.length : Int) then (if x5.length < 8796093022208 then (some (x5 ++ [(⟨x6, (x0.length : Int)⟩ : S43)])) else (none)) else (some x5))
def stickfulref21_Cuts.j1 : Nat → List (S25) → Bool → List (S43) → Int → Int → Bool → Option ((List (S43)))
  | 0, _, _, _, _, _, _ => none
  | k + 1, x0, x1, x5, x6, x8, x33 => if x33 = true then (if x5.length < 8796093022208 then ((some (x5 ++ [(⟨x6, x8⟩ : S43)] : List (S43))).bind fun y138 => (if 0 ≤ x8 then (if x8 < (x0.length : Int) then (if ((rd_T25 x0 x8).f0) = 5 then (if y138.length < 8796093022208 then (stickfulref21_Cuts.l0 k x0 x1 (y138 ++ [(⟨x8, wrap64 (x8 + 1)⟩ : S43)]) (wrap64 (x8 + 1)) true (wrap64 (x8 + 1))) else (none)) else (stickfulref21_Cuts.l0 k x0 x1 y138 x8 false (wrap64 (x8 + 1)))) else (none)) else (none))) else (none)) else (if 0 ≤ x8 then (if x8 < (x0.length : Int) then (if ((rd_T25 x0 x8).f0) = 5 then (if x5.length < 8796093022208 then (stickfulref21_Cuts.l0 k x0 x1 (x5 ++ [(⟨x6, wrap64 (x8 + 1)⟩ : S43)]) (wrap64 (x8 + 1)) true (wrap64 (x8 + 1))) else (none)) else (stickfulref21_Cuts.l0 k x0 x1 x5 x6 false (wrap64 (x8 + 1)))) else (none)) else (none))
end
def stickfulref21_Cuts.f (k : Nat) (l0 : List (S25)) (a1 : Bool) : Option ((List (S43))) := stickfulref21_Cuts.l0 k l0 a1 ([] : List (S43)) 0 true 0
theorem stickfulref21_Cuts.mono_l : ∀ k, (∀ y0 y1 y2 y3 y4 y5, LeO (stickfulref21_Cuts.l0 k y0 y1 y2 y3 y4 y5) (stickfulref21_Cuts.l0 (k + 1) y0 y1 y2 y3 y4 y5)) ∧ (∀ y0 y1 y2 y3 y4 y5, LeO (stickfulref21_Cuts.j1 k y0 y1 y2 y3 y4 y5) (stickfulref21_Cuts.j1 (k + 1) y0 y1 y2 y3 y4 y5))
  | 0 => ⟨fun _ _ _ _ _ _ r h => by simp [stickfulref21_Cuts.l0] at h, fun _ _ _ _ _ _ r h => by simp [stickfulref21_Cuts.j1] at h⟩
  | k + 1 => by
    obtain ⟨ih0, ih1⟩ := stickfulref21_Cuts.mono_l k
    refine ⟨?_, ?_⟩
    · intro y0 y1 y2 y3 y4 y5
      unfold stickfulref21_Cuts.l0
      repeat' first
      | (with_reducible exact ih0 _ _ _ _ _ _)
      | (with_reducible exact ih1 _ _ _ _ _ _)
      | (with_reducible exact LeO.refl _)
      | (with_reducible exact LeO.none _)
      | (with_reducible refine LeO.ite ?_ ?_)
      | (with_reducible refine LeO.bind ?_ (fun _ => ?_))
      | exact ih0 _ _ _ _ _ _
      | exact ih1 _ _ _ _ _ _
      | exact LeO.none _
      | refine LeO.ite ?_ ?_
      | refine LeO.bind ?_ (fun _ => ?_)
    · intro y0 y1 y2 y3 y4 y5
      unfold stickfulref21_Cuts.j1
      repeat' first
      | (with_reducible exact ih0 _ _ _ _ _ _)
      | (with_reducible exact ih1 _ _ _ _ _ _)
      | (with_reducible exact LeO.refl _)
      | (with_reducible exact LeO.none _)
      | (with_reducible refine LeO.ite ?_ ?_)
      | (with_reducible refine LeO.bind ?_ (fun _ => ?_))
      | exact ih0 _ _ _ _ _ _
      | exact ih1 _ _ _ _ _ _
      | exact LeO.none _
      | refine LeO.ite ?_ ?_
      | refine LeO.bind ?_ (fun _ => ?_)
theorem stickfulref21_Cuts.mono : ∀ a0 a1 k, LeO (stickfulref21_Cuts.f k a0 a1) (stickfulref21_Cuts.f (k + 1) a0 a1) := by
  intro a0 a1 k
  obtain ⟨ih0, ih1⟩ := stickfulref21_Cuts.mono_l k
  unfold stickfulref21_Cuts.f
  repeat' first
      | (with_reducible exact ih0 _ _ _ _ _ _)
      | (with_reducible exact ih1 _ _ _ _ _ _)
      | (with_reducible exact LeO.refl _)
      | (with_reducible exact LeO.none _)
      | (with_reducible refine LeO.ite ?_ ?_)
      | (with_reducible refine LeO.bind ?_ (fun _ => ?_))
      | exact ih0 _ _ _ _ _ _
      | exact ih1 _ _ _ _ _ _
      | exact LeO.none _
      | refine LeO.ite ?_ ?_
      | refine LeO.bind ?_ (fun _ => ?_)
set_option maxHeartbeats 8000000 in
set_option maxRecDepth 100000 in
theorem stickfulref21_Cuts.calls (k : Nat) (A0 : Option Addr) (c0 : Nat) (l0 : List (S25)) (a1 : Bool) (r : List (S43)) (w : World) (hr0 : Kd.C k25 w A0 l0.length l0) (hc0 : l0.length ≤ c0) (h : stickfulref21_Cuts.f k l0 a1 = some r) :
    Calls Try.prog 28 #[.slice A0 l0.length c0, .bool a1] w fun e w' => ∃ v0_ : Value, e = .returned (v0_) ∧ Kd.R k43 43 w' w.heap.size (fun _ => True) v0_ r ∧ Below w.heap.size w w' := by
  have hu43 := Try.underlying43
  have HR0 := Aside0.mk hr0
  have HC0 := Aside0.mk hc0
  clear hr0 hc0
  have HB := Aside0.mk (Below.refl w.heap.size w)
  have H : (stickfulref21_Cuts.l0 k l0 a1 ([] : List (S43)) 0 true 0) = some r := h
  clear h
  have H' := Aside0.mk H
  clear H
  go_enter Try.func28, Try.ntmps28
  go_wp2
  go_loopg [5, 6, 7, 8] k (fun kq v5 v6 v7 v8 w' => ∃ (x5_1 : List (S43)) (x6_1 : Int) (x7_1 : Bool) (x8_1 : Int), v6 = .int .i64 x6_1 ∧ v7 = .bool x7_1 ∧ v8 = .int .i64 x8_1 ∧ Aside0 (stickfulref21_Cuts.l0 kq l0 a1 x5_1 x6_1 x7_1 x8_1 = some r) ∧ Aside0 (kq ≤ k) ∧ Aside0 (Kd.R k43 43 w' w.heap.size (fun _ => True) v5 x5_1) ∧ Aside0 (Below w.heap.size w w'))
  case atStart => exact ⟨(([] : List (S43))), (0), (true), (0), (by first | rfl | (simp; done) | (simp [*]; done)), (by first | rfl | (simp; done) | (simp [*]; done)), (by first | rfl | (simp; done) | (simp [*]; done)), H', ⟨Nat.le_refl _⟩, ⟨by first | exact Kd.R_nil _ _ _ _ _ | exact Kd.N_nil _ _ _ _ _ | exact Kd.V_nil _ _ _ _ _ | exact Kd.Q_nil _ _ _ _ _ | exact Kd.S_nil _ _ _ _ _⟩, ⟨by repeat (first | (with_reducible first | exact HB.out | apply below_alloc | apply pw_below_drewN | apply below_drew1) | exact HB.out)⟩⟩
  case round =>
    clear H'
    try clear c2
    try clear p2
    obtain ⟨x5_1, x6_1, x7_1, x8_1, rfl, rfl, rfl, HA, HK1, HO_5, HB⟩ := hrel
    cases gk with
    | zero => exact absurd HA.out (by simp [stickfulref21_Cuts.l0])
    | succ k1 =>
      have H := HA.out
      clear HA
      simp only [stickfulref21_Cuts.l0] at H
      by_cases c3 : x8_1 < (l0.length : Int)
      · rw [if_pos c3] at H
        have c3b0 : decide (x8_1 < (l0.length : Int)) = true := decide_eq_true c3
        clear c3
        have HC4 := Aside0.mk H
        clear H
        go_upto_region 6 with (fail)
        go_cut [33] (fun v33 wc => ∃ (kq : Nat) (x33_3 : Bool), v33 = .bool x33_3 ∧ Aside0 (stickfulref21_Cuts.j1 kq l0 a1 x5_1 x6_1 x8_1 x33_3 = some r) ∧ Aside0 (kq ≤ k1) ∧ Aside0 (Kd.R k43 43 wc w.heap.size (fun _ => True) u5 x5_1) ∧ Aside0 (Below w.heap.size w wc))
        case first =>
          have H := HC4.out
          clear HC4
          by_cases c5 : x7_1 = true
          · subst c5
            have H1 : (stickfulref21_Cuts.j1 k1 l0 a1 x5_1 x6_1 x8_1 false) = some r := by rw [if_pos rfl] at H; exact H
            clear H
            have H := H1
            clear H1
            have H' := Aside0.mk H
            clear H
            go_wp2
            go_meet
            case rel => exact ⟨_, (false), (by first | rfl | (simp; done) | (simp [*]; done)), H', ⟨by have := HK1.out; first | omega | exact Nat.le_refl _⟩, ⟨by (with_reducible repeat (first | apply Kd.R_alloc | apply Kd.R_drewN | apply Kd.R_drew)); exact HO_5.out⟩, ⟨by repeat (first | (with_reducible first | exact HB.out | apply below_alloc | apply pw_below_drewN | apply below_drew1) | exact HB.out)⟩⟩
          · replace c5 := Bool.eq_false_iff.mpr c5
            subst c5
            have H1 : (if a1 = true then (if 0 ≤ x8_1 then (if (rd_T25 l0 x8_1).f4 = true then (stickfulref21_Cuts.j1 k1 l0 a1 x5_1 x6_1 x8_1 true) else (stickfulref21_Cuts.j1 k1 l0 a1 x5_1 x6_1 x8_1 ((rd_T25 l0 x8_1).f5))) else (none)) else (stickfulref21_Cuts.j1 k1 l0 a1 x5_1 x6_1 x8_1 false)) = some r := by rw [if_neg (show ¬ (false = true) by decide)] at H; exact H
            clear H
            have H := H1
            clear H1
            by_cases c6 : a1 = true
            · subst c6
              have H1 : (if 0 ≤ x8_1 then (if (rd_T25 l0 x8_1).f4 = true then (stickfulref21_Cuts.j1 k1 l0 true x5_1 x6_1 x8_1 true) else (stickfulref21_Cuts.j1 k1 l0 true x5_1 x6_1 x8_1 ((rd_T25 l0 x8_1).f5))) else (none)) = some r := by rw [if_pos rfl] at H; exact H
              clear H
              have H := H1
              clear H1
              by_cases c7 : 0 ≤ x8_1
              · rw [if_pos c7] at H
                have c7b0 : decide (0 ≤ x8_1) = true := decide_eq_true c7
                clear c7
                (first | rw [c7b0] | (simp only [i64_w, i32_w]; rw [c7b0]) | skip)
                obtain ⟨bq8, hbq8⟩ : ∃ b_ : Bool, b_ = ((rd_T25 l0 x8_1).f4) := ⟨_, rfl⟩
                replace H : (if bq8 = true then (stickfulref21_Cuts.j1 k1 l0 true x5_1 x6_1 x8_1 true) else (stickfulref21_Cuts.j1 k1 l0 true x5_1 x6_1 x8_1 ((rd_T25 l0 x8_1).f5))) = some r := by rw [← hbq8] at H; exact H
                have Nbq8 := Aside0.mk hbq8
                clear hbq8
                by_cases c9 : bq8 = true
                · subst c9
                  have H1 : (stickfulref21_Cuts.j1 k1 l0 true x5_1 x6_1 x8_1 true) = some r := by rw [if_pos rfl] at H; exact H
                  clear H
                  have H := H1
                  clear H1
                  have H' := Aside0.mk H
                  clear H
                  have p136 : 0 ≤ (x8_1 : Int) := of_decide_eq_true (by first | (with_reducible assumption) | assumption)
                  have q136 : x8_1 < (l0.length : Int) := of_decide_eq_true (by first | (with_reducible assumption) | assumption)
                  obtain ⟨ad136, e136, hx136_0, hx136_1, hx136_2, hx136_3, hx136_4, hx136_5⟩ := at_T25 HR0.out x8_1 p136 q136
                  (try rw [← Nbq8.out] at hx136_4)
                  (try rw [← Nbq8.out] at hx136_5)
                  cases e136
                  replace hx136_0 := (HB.out.cell (World.block_lt_of_cell? w _ hx136_0)).trans hx136_0
                  replace hx136_1 := (HB.out.cell (World.block_lt_of_cell? w _ hx136_1)).trans hx136_1
                  replace hx136_2 := (HB.out.cell (World.block_lt_of_cell? w _ hx136_2)).trans hx136_2
                  replace hx136_3 := (HB.out.cell (World.block_lt_of_cell? w _ hx136_3)).trans hx136_3
                  replace hx136_4 := (HB.out.cell (World.block_lt_of_cell? w _ hx136_4)).trans hx136_4
                  replace hx136_5 := (HB.out.cell (World.block_lt_of_cell? w _ hx136_5)).trans hx136_5
                  replace p136 := eq_true p136
                  replace q136 := eq_true q136
                  go_wp2
                  go_meet
                  case rel => exact ⟨_, (true), (by first | rfl | (simp; done) | (simp [*]; done)), H', ⟨by have := HK1.out; first | omega | exact Nat.le_refl _⟩, ⟨by (with_reducible repeat (first | apply Kd.R_alloc | apply Kd.R_drewN | apply Kd.R_drew)); exact HO_5.out⟩, ⟨by repeat (first | (with_reducible first | exact HB.out | apply below_alloc | apply pw_below_drewN | apply below_drew1) | exact HB.out)⟩⟩
                · replace c9 := Bool.eq_false_iff.mpr c9
                  subst c9
                  have H1 : (stickfulref21_Cuts.j1 k1 l0 true x5_1 x6_1 x8_1 ((rd_T25 l0 x8_1).f5)) = some r := by rw [if_neg (show ¬ (false = true) by decide)] at H; exact H
                  clear H
                  have H := H1
                  clear H1
                  have H' := Aside0.mk H
                  clear H
                  have p136 : 0 ≤ (x8_1 : Int) := of_decide_eq_true (by first | (with_reducible assumption) | assumption)
                  have q136 : x8_1 < (l0.length : Int) := of_decide_eq_true (by first | (with_reducible assumption) | assumption)
                  obtain ⟨ad136, e136, hx136_0, hx136_1, hx136_2, hx136_3, hx136_4, hx136_5⟩ := at_T25 HR0.out x8_1 p136 q136
                  (try rw [← Nbq8.out] at hx136_4)
                  (try rw [← Nbq8.out] at hx136_5)
                  cases e136
                  replace hx136_0 := (HB.out.cell (World.block_lt_of_cell? w _ hx136_0)).trans hx136_0
                  replace hx136_1 := (HB.out.cell (World.block_lt_of_cell? w _ hx136_1)).trans hx136_1
                  replace hx136_2 := (HB.out.cell (World.block_lt_of_cell? w _ hx136_2)).trans hx136_2
                  replace hx136_3 := (HB.out.cell (World.block_lt_of_cell? w _ hx136_3)).trans hx136_3
                  replace hx136_4 := (HB.out.cell (World.block_lt_of_cell? w _ hx136_4)).trans hx136_4
                  replace hx136_5 := (HB.out.cell (World.block_lt_of_cell? w _ hx136_5)).trans hx136_5
                  replace p136 := eq_true p136
                  replace q136 := eq_true q136
                  have p137 : 0 ≤ (x8_1 : Int) := of_decide_eq_true (by first | (with_reducible assumption) | assumption)
                  have q137 : x8_1 < (l0.length : Int) := of_decide_eq_true (by first | (with_reducible assumption) | assumption)
                  obtain ⟨ad137, e137, hx137_0, hx137_1, hx137_2, hx137_3, hx137_4, hx137_5⟩ := at_T25 HR0.out x8_1 p137 q137
                  (try rw [← Nbq8.out] at hx137_4)
                  (try rw [← Nbq8.out] at hx137_5)
                  obtain rfl : ad136 = ad137 := (by injection e137)
                  replace hx137_0 := (HB.out.cell (World.block_lt_of_cell? w _ hx137_0)).trans hx137_0
                  replace hx137_1 := (HB.out.cell (World.block_lt_of_cell? w _ hx137_1)).trans hx137_1
                  replace hx137_2 := (HB.out.cell (World.block_lt_of_cell? w _ hx137_2)).trans hx137_2
                  replace hx137_3 := (HB.out.cell (World.block_lt_of_cell? w _ hx137_3)).trans hx137_3
                  replace hx137_4 := (HB.out.cell (World.block_lt_of_cell? w _ hx137_4)).trans hx137_4
                  replace hx137_5 := (HB.out.cell (World.block_lt_of_cell? w _ hx137_5)).trans hx137_5
                  replace p137 := eq_true p137
                  replace q137 := eq_true q137
                  go_wp2
                  go_meet
                  case rel => exact ⟨_, ((rd_T25 l0 x8_1).f5), (by first | rfl | (simp; done) | (simp [*]; done)), H', ⟨by have := HK1.out; first | omega | exact Nat.le_refl _⟩, ⟨by (with_reducible repeat (first | apply Kd.R_alloc | apply Kd.R_drewN | apply Kd.R_drew)); exact HO_5.out⟩, ⟨by repeat (first | (with_reducible first | exact HB.out | apply below_alloc | apply pw_below_drewN | apply below_drew1) | exact HB.out)⟩⟩
              · rw [if_neg c7] at H
                exact absurd H (by simp)
            · replace c6 := Bool.eq_false_iff.mpr c6
              subst c6
              have H1 : (stickfulref21_Cuts.j1 k1 l0 false x5_1 x6_1 x8_1 false) = some r := by rw [if_neg (show ¬ (false = true) by decide)] at H; exact H
              clear H
              have H := H1
              clear H1
              have H' := Aside0.mk H
              clear H
              go_wp2
              go_meet
              case rel => exact ⟨_, (false), (by first | rfl | (simp; done) | (simp [*]; done)), H', ⟨by have := HK1.out; first | omega | exact Nat.le_refl _⟩, ⟨by (with_reducible repeat (first | apply Kd.R_alloc | apply Kd.R_drewN | apply Kd.R_drew)); exact HO_5.out⟩, ⟨by repeat (first | (with_reducible first | exact HB.out | apply below_alloc | apply pw_below_drewN | apply below_drew1) | exact HB.out)⟩⟩
        case rest =>
          clear HC4
          try clear p1
          try clear q1
          try clear hx1
          try clear c2
          try clear p2
          try clear c3
          try clear c3b0
          try clear c5
          try clear c6
          try clear c7
          try clear c7b0
          try clear q8
          try clear c9
          try clear hx136_0
          try clear hx136_1
          try clear hx136_2
          try clear hx136_3
          try clear hx136_4
          try clear hx136_5
          try clear hx137_0
          try clear hx137_1
          try clear hx137_2
          try clear hx137_3
          try clear hx137_4
          try clear hx137_5
          try clear p136
          try clear p137
          try clear p2
          try clear q136
          try clear q137
          obtain ⟨kq, x33_3, rfl, HA, HJ3, HO_5, HB⟩ := hcut
          cases kq with
          | zero => exact absurd HA.out (by simp [stickfulref21_Cuts.j1])
          | succ kj3 =>
            have H := HA.out
            clear HA
            simp only [stickfulref21_Cuts.j1] at H
            by_cases c10 : x33_3 = true
            · subst c10
              have H1 : (if x5_1.length < 8796093022208 then ((some (x5_1 ++ [(⟨x6_1, x8_1⟩ : S43)] : List (S43))).bind fun y138 => (if 0 ≤ x8_1 then (if x8_1 < (l0.length : Int) then (if ((rd_T25 l0 x8_1).f0) = 5 then (if y138.length < 8796093022208 then (stickfulref21_Cuts.l0 kj3 l0 a1 (y138 ++ [(⟨x8_1, wrap64 (x8_1 + 1)⟩ : S43)]) (wrap64 (x8_1 + 1)) true (wrap64 (x8_1 + 1))) else (none)) else (stickfulref21_Cuts.l0 kj3 l0 a1 y138 x8_1 false (wrap64 (x8_1 + 1)))) else (none)) else (none))) else (none)) = some r := by rw [if_pos rfl] at H; exact H
              clear H
              have H := H1
              clear H1
              by_cases c11 : x5_1.length < 8796093022208
              · rw [if_pos c11] at H
                have LMc11 := Aside0.mk c11
                clear c11
                obtain ⟨y138, hy138⟩ : ∃ y_ : List (S43), y_ = (x5_1 ++ [(⟨x6_1, x8_1⟩ : S43)]) := ⟨_, rfl⟩
                replace H : (if 0 ≤ x8_1 then (if x8_1 < (l0.length : Int) then (if ((rd_T25 l0 x8_1).f0) = 5 then (if y138.length < 8796093022208 then (stickfulref21_Cuts.l0 kj3 l0 a1 (y138 ++ [(⟨x8_1, wrap64 (x8_1 + 1)⟩ : S43)]) (wrap64 (x8_1 + 1)) true (wrap64 (x8_1 + 1))) else (none)) else (stickfulref21_Cuts.l0 kj3 l0 a1 y138 x8_1 false (wrap64 (x8_1 + 1)))) else (none)) else (none)) = some r := by first | (rw [hy138]; with_reducible exact H) | (have H2_ := (Option.bind_some _ _).symm.trans H; rw [hy138]; with_reducible exact H2_) | (have H2_ := (Option.bind_some _ _).symm.trans H; with_reducible exact H2_) | with_reducible exact H | (rw [hy138]; exact H) | exact H
                have Ny138 := Aside0.mk hy138
                clear hy138
                by_cases c12 : 0 ≤ x8_1
                · rw [if_pos c12] at H
                  have c12b0 : decide (0 ≤ x8_1) = true := decide_eq_true c12
                  clear c12
                  by_cases c13 : x8_1 < (l0.length : Int)
                  · rw [if_pos c13] at H
                    have c13b0 : decide (x8_1 < (l0.length : Int)) = true := decide_eq_true c13
                    clear c13
                    by_cases c14 : ((rd_T25 l0 x8_1).f0) = 5
                    · rw [if_pos c14] at H
                      have c14b0 : (((rd_T25 l0 x8_1).f0) == 5) = true := beq_iff_eq.mpr c14
                      have c14b1 : (((rd_T25 l0 x8_1).f0) != 5) = false := bne_eq_false_iff_eq.mpr c14
                      clear c14
                      by_cases c15 : y138.length < 8796093022208
                      · rw [if_pos c15] at H
                        have LMc15 := Aside0.mk c15
                        clear c15
                        obtain ⟨y142, hy142⟩ : ∃ y_ : List (S43), y_ = (y138 ++ [(⟨x8_1, wrap64 (x8_1 + 1)⟩ : S43)]) := ⟨_, rfl⟩
                        replace H : (stickfulref21_Cuts.l0 kj3 l0 a1 y142 (wrap64 (x8_1 + 1)) true (wrap64 (x8_1 + 1))) = some r := by first | (rw [hy142]; with_reducible exact H) | (have H2_ := (Option.bind_some _ _).symm.trans H; rw [hy142]; with_reducible exact H2_) | (have H2_ := (Option.bind_some _ _).symm.trans H; with_reducible exact H2_) | with_reducible exact H | (rw [hy142]; exact H) | exact H
                        have Ny142 := Aside0.mk hy142
                        clear hy142
                        have H' := Aside0.mk H
                        clear H
                        go_wp2_with (first | ((with_reducible refine gate_builtin (b := .append) (xs := #[.tmp 34, .tmp 38]) rfl ?_); at_builtin; refine Kd.R_append k43 (w0 := w) w.heap.size rfl (.tmp 34) (.tmp 38) 40 43 (.agg #[(.int .i64 0), (.int .i64 0)]) 16 rfl Try.underlying40 info43 rfl (by decide) (by omega) u5 x5_1 (⟨x6_1, x8_1⟩ : S43) [.int .i64 x6_1, .int .i64 x8_1] (fun _ => True) (fun _ => False) rfl rfl ?aP (fun _ hk => hk.elim) ?aF ?aO ?aB ?aS ?aL ?_; (case aP => exact k43_mkM _ _ _ (⟨x6_1, x8_1⟩ : S43)); (case aB => exact (by repeat (first | (with_reducible first | exact HB.out | apply below_alloc | apply pw_below_drewN | apply below_drew1) | exact HB.out))); (case aF => exact (fun _ _ => trivial)); (case aO => exact (by (with_reducible repeat (first | apply Kd.R_alloc | apply Kd.R_drewN | apply Kd.R_drew)); exact HO_5.out)); (case aS => exact (below_size (by repeat (first | (with_reducible first | exact HB.out | apply below_alloc | apply pw_below_drewN | apply below_drew1) | exact HB.out)))); (case aL => have := LMc11.out; omega); intro v139 w16 ho hb hg hat; rw [← Ny138.out] at ho; have n0_ := Aside0.mk (hb); have n1_ := Aside0.mk (ho); clear HB; clear HO_5; have HB := n0_; have HO140 := n1_; clear n0_ n1_; clear ho hb hg hat; have p141 : 0 ≤ (x8_1 : Int) := of_decide_eq_true (by first | (with_reducible assumption) | assumption); have q141 : x8_1 < (l0.length : Int) := of_decide_eq_true (by first | (with_reducible assumption) | assumption); obtain ⟨ad141, e141, hx141_0, hx141_1, hx141_2, hx141_3, hx141_4, hx141_5⟩ := at_T25 HR0.out x8_1 p141 q141; cases e141; replace hx141_0 := (HB.out.cell (World.block_lt_of_cell? w _ hx141_0)).trans hx141_0; replace hx141_1 := (HB.out.cell (World.block_lt_of_cell? w _ hx141_1)).trans hx141_1; replace hx141_2 := (HB.out.cell (World.block_lt_of_cell? w _ hx141_2)).trans hx141_2; replace hx141_3 := (HB.out.cell (World.block_lt_of_cell? w _ hx141_3)).trans hx141_3; replace hx141_4 := (HB.out.cell (World.block_lt_of_cell? w _ hx141_4)).trans hx141_4; replace hx141_5 := (HB.out.cell (World.block_lt_of_cell? w _ hx141_5)).trans hx141_5; replace p141 := eq_true p141; replace q141 := eq_true q141) | ((with_reducible refine gate_builtin (b := .append) (xs := #[.tmp 47, .tmp 52]) rfl ?_); at_builtin; refine Kd.R_append k43 (w0 := w) w.heap.size rfl (.tmp 47) (.tmp 52) 40 43 (.agg #[(.int .i64 0), (.int .i64 0)]) 16 rfl Try.underlying40 info43 rfl (by decide) (by omega) v139 y138 (⟨x8_1, wrap64 (x8_1 + 1)⟩ : S43) [.int .i64 x8_1, .int .i64 (wrap64 (x8_1 + 1))] (fun _ => True) (fun _ => False) rfl rfl ?aP (fun _ hk => hk.elim) ?aF ?aO ?aB ?aS ?aL ?_; (case aP => exact k43_mkM _ _ _ (⟨x8_1, wrap64 (x8_1 + 1)⟩ : S43)); (case aB => exact (by repeat (first | (with_reducible first | exact HB.out | apply below_alloc | apply pw_below_drewN | apply below_drew1) | exact HB.out))); (case aF => exact (fun _ _ => trivial)); (case aO => exact (by (with_reducible repeat (first | apply Kd.R_alloc | apply Kd.R_drewN | apply Kd.R_drew)); exact HO140.out)); (case aS => exact (below_size (by repeat (first | (with_reducible first | exact HB.out | apply below_alloc | apply pw_below_drewN | apply below_drew1) | exact HB.out)))); (case aL => have := LMc15.out; omega); intro v143 w17 ho hb hg hat; rw [← Ny142.out] at ho; have n0_ := Aside0.mk (hb); have n1_ := Aside0.mk (ho); clear HB; clear HO140; have HB := n0_; have HO144 := n1_; clear n0_ n1_; clear ho hb hg hat))
                        go_roundg kj3
                        case measure => have := HK1.out; have := HJ3.out; omega
                        case rel => exact ⟨(y142), (wrap64 (x8_1 + 1)), (true), (wrap64 (x8_1 + 1)), (by first | rfl | (simp; done) | (simp [*]; done)), (by first | rfl | (simp; done) | (simp [*]; done)), (by first | rfl | (simp; done) | (simp [*]; done)), H', ⟨by have := HK1.out; have := HJ3.out; omega⟩, ⟨by (with_reducible repeat (first | apply Kd.R_alloc | apply Kd.R_drewN | apply Kd.R_drew)); exact HO144.out⟩, ⟨by repeat (first | (with_reducible first | exact HB.out | apply below_alloc | apply pw_below_drewN | apply below_drew1) | exact HB.out)⟩⟩
                      · rw [if_neg c15] at H
                        exact absurd H (by simp)
                    · rw [if_neg c14] at H
                      have c14b0 : (((rd_T25 l0 x8_1).f0) == 5) = false := beq_eq_false_iff_ne.mpr c14
                      have c14b1 : (((rd_T25 l0 x8_1).f0) != 5) = true := bne_iff_ne.mpr c14
                      have H' := Aside0.mk H
                      clear H
                      go_wp2_with (first | ((with_reducible refine gate_builtin (b := .append) (xs := #[.tmp 34, .tmp 38]) rfl ?_); at_builtin; refine Kd.R_append k43 (w0 := w) w.heap.size rfl (.tmp 34) (.tmp 38) 40 43 (.agg #[(.int .i64 0), (.int .i64 0)]) 16 rfl Try.underlying40 info43 rfl (by decide) (by omega) u5 x5_1 (⟨x6_1, x8_1⟩ : S43) [.int .i64 x6_1, .int .i64 x8_1] (fun _ => True) (fun _ => False) rfl rfl ?aP (fun _ hk => hk.elim) ?aF ?aO ?aB ?aS ?aL ?_; (case aP => exact k43_mkM _ _ _ (⟨x6_1, x8_1⟩ : S43)); (case aB => exact (by repeat (first | (with_reducible first | exact HB.out | apply below_alloc | apply pw_below_drewN | apply below_drew1) | exact HB.out))); (case aF => exact (fun _ _ => trivial)); (case aO => exact (by (with_reducible repeat (first | apply Kd.R_alloc | apply Kd.R_drewN | apply Kd.R_drew)); exact HO_5.out)); (case aS => exact (below_size (by repeat (first | (with_reducible first | exact HB.out | apply below_alloc | apply pw_below_drewN | apply below_drew1) | exact HB.out)))); (case aL => have := LMc11.out; omega); intro v139 w18 ho hb hg hat; rw [← Ny138.out] at ho; have n0_ := Aside0.mk (hb); have n1_ := Aside0.mk (ho); clear HB; clear HO_5; have HB := n0_; have HO140 := n1_; clear n0_ n1_; clear ho hb hg hat; have p141 : 0 ≤ (x8_1 : Int) := of_decide_eq_true (by first | (with_reducible assumption) | assumption); have q141 : x8_1 < (l0.length : Int) := of_decide_eq_true (by first | (with_reducible assumption) | assumption); obtain ⟨ad141, e141, hx141_0, hx141_1, hx141_2, hx141_3, hx141_4, hx141_5⟩ := at_T25 HR0.out x8_1 p141 q141; cases e141; replace hx141_0 := (HB.out.cell (World.block_lt_of_cell? w _ hx141_0)).trans hx141_0; replace hx141_1 := (HB.out.cell (World.block_lt_of_cell? w _ hx141_1)).trans hx141_1; replace hx141_2 := (HB.out.cell (World.block_lt_of_cell? w _ hx141_2)).trans hx141_2; replace hx141_3 := (HB.out.cell (World.block_lt_of_cell? w _ hx141_3)).trans hx141_3; replace hx141_4 := (HB.out.cell (World.block_lt_of_cell? w _ hx141_4)).trans hx141_4; replace hx141_5 := (HB.out.cell (World.block_lt_of_cell? w _ hx141_5)).trans hx141_5; replace p141 := eq_true p141; replace q141 := eq_true q141))
                      go_roundg kj3
                      case measure => have := HK1.out; have := HJ3.out; omega
                      case rel => exact ⟨(y138), (x8_1), (false), (wrap64 (x8_1 + 1)), (by first | rfl | (simp; done) | (simp [*]; done)), (by first | rfl | (simp; done) | (simp [*]; done)), (by first | rfl | (simp; done) | (simp [*]; done)), H', ⟨by have := HK1.out; have := HJ3.out; omega⟩, ⟨by (with_reducible repeat (first | apply Kd.R_alloc | apply Kd.R_drewN | apply Kd.R_drew)); exact HO140.out⟩, ⟨by repeat (first | (with_reducible first | exact HB.out | apply below_alloc | apply pw_below_drewN | apply below_drew1) | exact HB.out)⟩⟩
                  · rw [if_neg c13] at H
                    exact absurd H (by simp)
                · rw [if_neg c12] at H
                  exact absurd H (by simp)
              · rw [if_neg c11] at H
                exact absurd H (by simp)
            · replace c10 := Bool.eq_false_iff.mpr c10
              subst c10
              have H1 : (if 0 ≤ x8_1 then (if x8_1 < (l0.length : Int) then (if ((rd_T25 l0 x8_1).f0) = 5 then (if x5_1.length < 8796093022208 then (stickfulref21_Cuts.l0 kj3 l0 a1 (x5_1 ++ [(⟨x6_1, wrap64 (x8_1 + 1)⟩ : S43)]) (wrap64 (x8_1 + 1)) true (wrap64 (x8_1 + 1))) else (none)) else (stickfulref21_Cuts.l0 kj3 l0 a1 x5_1 x6_1 false (wrap64 (x8_1 + 1)))) else (none)) else (none)) = some r := by rw [if_neg (show ¬ (false = true) by decide)] at H; exact H
              clear H
              have H := H1
              clear H1
              by_cases c19 : 0 ≤ x8_1
              · rw [if_pos c19] at H
                have c19b0 : decide (0 ≤ x8_1) = true := decide_eq_true c19
                clear c19
                by_cases c20 : x8_1 < (l0.length : Int)
                · rw [if_pos c20] at H
                  have c20b0 : decide (x8_1 < (l0.length : Int)) = true := decide_eq_true c20
                  clear c20
                  by_cases c21 : ((rd_T25 l0 x8_1).f0) = 5
                  · rw [if_pos c21] at H
                    have c21b0 : (((rd_T25 l0 x8_1).f0) == 5) = true := beq_iff_eq.mpr c21
                    have c21b1 : (((rd_T25 l0 x8_1).f0) != 5) = false := bne_eq_false_iff_eq.mpr c21
                    clear c21
                    by_cases c22 : x5_1.length < 8796093022208
                    · rw [if_pos c22] at H
                      have LMc22 := Aside0.mk c22
                      clear c22
                      obtain ⟨y146, hy146⟩ : ∃ y_ : List (S43), y_ = (x5_1 ++ [(⟨x6_1, wrap64 (x8_1 + 1)⟩ : S43)]) := ⟨_, rfl⟩
                      replace H : (stickfulref21_Cuts.l0 kj3 l0 a1 y146 (wrap64 (x8_1 + 1)) true (wrap64 (x8_1 + 1))) = some r := by first | (rw [hy146]; with_reducible exact H) | (have H2_ := (Option.bind_some _ _).symm.trans H; rw [hy146]; with_reducible exact H2_) | (have H2_ := (Option.bind_some _ _).symm.trans H; with_reducible exact H2_) | with_reducible exact H | (rw [hy146]; exact H) | exact H
                      have Ny146 := Aside0.mk hy146
                      clear hy146
                      have H' := Aside0.mk H
                      clear H
                      have p145 : 0 ≤ (x8_1 : Int) := of_decide_eq_true (by first | (with_reducible assumption) | assumption)
                      have q145 : x8_1 < (l0.length : Int) := of_decide_eq_true (by first | (with_reducible assumption) | assumption)
                      obtain ⟨ad145, e145, hx145_0, hx145_1, hx145_2, hx145_3, hx145_4, hx145_5⟩ := at_T25 HR0.out x8_1 p145 q145
                      cases e145
                      replace hx145_0 := (HB.out.cell (World.block_lt_of_cell? w _ hx145_0)).trans hx145_0
                      replace hx145_1 := (HB.out.cell (World.block_lt_of_cell? w _ hx145_1)).trans hx145_1
                      replace hx145_2 := (HB.out.cell (World.block_lt_of_cell? w _ hx145_2)).trans hx145_2
                      replace hx145_3 := (HB.out.cell (World.block_lt_of_cell? w _ hx145_3)).trans hx145_3
                      replace hx145_4 := (HB.out.cell (World.block_lt_of_cell? w _ hx145_4)).trans hx145_4
                      replace hx145_5 := (HB.out.cell (World.block_lt_of_cell? w _ hx145_5)).trans hx145_5
                      replace p145 := eq_true p145
                      replace q145 := eq_true q145
                      go_wp2_with (first | ((with_reducible refine gate_builtin (b := .append) (xs := #[.tmp 47, .tmp 52]) rfl ?_); at_builtin; refine Kd.R_append k43 (w0 := w) w.heap.size rfl (.tmp 47) (.tmp 52) 40 43 (.agg #[(.int .i64 0), (.int .i64 0)]) 16 rfl Try.underlying40 info43 rfl (by decide) (by omega) u5 x5_1 (⟨x6_1, wrap64 (x8_1 + 1)⟩ : S43) [.int .i64 x6_1, .int .i64 (wrap64 (x8_1 + 1))] (fun _ => True) (fun _ => False) rfl rfl ?aP (fun _ hk => hk.elim) ?aF ?aO ?aB ?aS ?aL ?_; (case aP => exact k43_mkM _ _ _ (⟨x6_1, wrap64 (x8_1 + 1)⟩ : S43)); (case aB => exact (by repeat (first | (with_reducible first | exact HB.out | apply below_alloc | apply pw_below_drewN | apply below_drew1) | exact HB.out))); (case aF => exact (fun _ _ => trivial)); (case aO => exact (by (with_reducible repeat (first | apply Kd.R_alloc | apply Kd.R_drewN | apply Kd.R_drew)); exact HO_5.out)); (case aS => exact (below_size (by repeat (first | (with_reducible first | exact HB.out | apply below_alloc | apply pw_below_drewN | apply below_drew1) | exact HB.out)))); (case aL => have := LMc22.out; omega); intro v147 w23 ho hb hg hat; rw [← Ny146.out] at ho; have n0_ := Aside0.mk (hb); have n1_ := Aside0.mk (ho); clear HB; clear HO_5; have HB := n0_; have HO148 := n1_; clear n0_ n1_; clear ho hb hg hat))
                      go_roundg kj3
                      case measure => have := HK1.out; have := HJ3.out; omega
                      case rel => exact ⟨(y146), (wrap64 (x8_1 + 1)), (true), (wrap64 (x8_1 + 1)), (by first | rfl | (simp; done) | (simp [*]; done)), (by first | rfl | (simp; done) | (simp [*]; done)), (by first | rfl | (simp; done) | (simp [*]; done)), H', ⟨by have := HK1.out; have := HJ3.out; omega⟩, ⟨by (with_reducible repeat (first | apply Kd.R_alloc | apply Kd.R_drewN | apply Kd.R_drew)); exact HO148.out⟩, ⟨by repeat (first | (with_reducible first | exact HB.out | apply below_alloc | apply pw_below_drewN | apply below_drew1) | exact HB.out)⟩⟩
                    · rw [if_neg c22] at H
                      exact absurd H (by simp)
                  · rw [if_neg c21] at H
                    have c21b0 : (((rd_T25 l0 x8_1).f0) == 5) = false := beq_eq_false_iff_ne.mpr c21
                    have c21b1 : (((rd_T25 l0 x8_1).f0) != 5) = true := bne_iff_ne.mpr c21
                    have H' := Aside0.mk H
                    clear H
                    have p145 : 0 ≤ (x8_1 : Int) := of_decide_eq_true (by first | (with_reducible assumption) | assumption)
                    have q145 : x8_1 < (l0.length : Int) := of_decide_eq_true (by first | (with_reducible assumption) | assumption)
                    obtain ⟨ad145, e145, hx145_0, hx145_1, hx145_2, hx145_3, hx145_4, hx145_5⟩ := at_T25 HR0.out x8_1 p145 q145
                    cases e145
                    replace hx145_0 := (HB.out.cell (World.block_lt_of_cell? w _ hx145_0)).trans hx145_0
                    replace hx145_1 := (HB.out.cell (World.block_lt_of_cell? w _ hx145_1)).trans hx145_1
                    replace hx145_2 := (HB.out.cell (World.block_lt_of_cell? w _ hx145_2)).trans hx145_2
                    replace hx145_3 := (HB.out.cell (World.block_lt_of_cell? w _ hx145_3)).trans hx145_3
                    replace hx145_4 := (HB.out.cell (World.block_lt_of_cell? w _ hx145_4)).trans hx145_4
                    replace hx145_5 := (HB.out.cell (World.block_lt_of_cell? w _ hx145_5)).trans hx145_5
                    replace p145 := eq_true p145
                    replace q145 := eq_true q145
                    go_wp2
                    go_roundg kj3
                    case measure => have := HK1.out; have := HJ3.out; omega
                    case rel => exact ⟨(x5_1), (x6_1), (false), (wrap64 (x8_1 + 1)), (by first | rfl | (simp; done) | (simp [*]; done)), (by first | rfl | (simp; done) | (simp [*]; done)), (by first | rfl | (simp; done) | (simp [*]; done)), H', ⟨by have := HK1.out; have := HJ3.out; omega⟩, ⟨by (with_reducible repeat (first | apply Kd.R_alloc | apply Kd.R_drewN | apply Kd.R_drew)); exact HO_5.out⟩, ⟨by repeat (first | (with_reducible first | exact HB.out | apply below_alloc | apply pw_below_drewN | apply below_drew1) | exact HB.out)⟩⟩
                · rw [if_neg c20] at H
                  exact absurd H (by simp)
              · rw [if_neg c19] at H
                exact absurd H (by simp)
      · rw [if_neg c3] at H
        have c3b0 : decide (x8_1 < (l0.length : Int)) = false := decide_eq_false c3
        clear c3
        by_cases c24 : x6_1 < (l0.length : Int)
        · rw [if_pos c24] at H
          have c24b0 : decide (x6_1 < (l0.length : Int)) = true := decide_eq_true c24
          clear c24
          by_cases c25 : x5_1.length < 8796093022208
          · rw [if_pos c25] at H
            have LMc25 := Aside0.mk c25
            clear c25
            obtain ⟨y133, hy133⟩ : ∃ y_ : List (S43), y_ = (x5_1 ++ [(⟨x6_1, (l0.length : Int)⟩ : S43)]) := ⟨_, rfl⟩
            replace H : (some y133) = some r := by first | (rw [hy133]; with_reducible exact H) | (have H2_ := (Option.bind_some _ _).symm.trans H; rw [hy133]; with_reducible exact H2_) | (have H2_ := (Option.bind_some _ _).symm.trans H; with_reducible exact H2_) | with_reducible exact H | (rw [hy133]; exact H) | exact H
            have Ny133 := Aside0.mk hy133
            clear hy133
            obtain rfl := Option.some.inj H
            go_wp2_with (first | ((with_reducible refine gate_builtin (b := .append) (xs := #[.tmp 60, .tmp 65]) rfl ?_); at_builtin; refine Kd.R_append k43 (w0 := w) w.heap.size rfl (.tmp 60) (.tmp 65) 40 43 (.agg #[(.int .i64 0), (.int .i64 0)]) 16 rfl Try.underlying40 info43 rfl (by decide) (by omega) u5 x5_1 (⟨x6_1, (l0.length : Int)⟩ : S43) [.int .i64 x6_1, .int .i64 (l0.length : Int)] (fun _ => True) (fun _ => False) rfl rfl ?aP (fun _ hk => hk.elim) ?aF ?aO ?aB ?aS ?aL ?_; (case aP => exact k43_mkM _ _ _ (⟨x6_1, (l0.length : Int)⟩ : S43)); (case aB => exact (by repeat (first | (with_reducible first | exact HB.out | apply below_alloc | apply pw_below_drewN | apply below_drew1) | exact HB.out))); (case aF => exact (fun _ _ => trivial)); (case aO => exact (by (with_reducible repeat (first | apply Kd.R_alloc | apply Kd.R_drewN | apply Kd.R_drew)); exact HO_5.out)); (case aS => exact (below_size (by repeat (first | (with_reducible first | exact HB.out | apply below_alloc | apply pw_below_drewN | apply below_drew1) | exact HB.out)))); (case aL => have := LMc25.out; omega); intro v134 w26 ho hb hg hat; rw [← Ny133.out] at ho; have n0_ := Aside0.mk (hb); have n1_ := Aside0.mk (ho); clear HB; clear HO_5; have HB := n0_; have HO135 := n1_; clear n0_ n1_; clear ho hb hg hat))
            go_ret
            exact ⟨_, by first | rfl | (simp [errW_none, errW_some] <;> rfl) | (simp [*, errW_none, errW_some] <;> rfl), by (with_reducible repeat (first | apply Kd.R_alloc | apply Kd.R_drewN | apply Kd.R_drew)); exact HO135.out, by repeat (first | (with_reducible first | exact HB.out | apply below_alloc | apply pw_below_drewN | apply below_drew1) | exact HB.out)⟩
          · rw [if_neg c25] at H
            exact absurd H (by simp)
        · rw [if_neg c24] at H
          have c24b0 : decide (x6_1 < (l0.length : Int)) = false := decide_eq_false c24
          clear c24
          obtain rfl := Option.some.inj H
          go_wp2
          go_ret
          exact ⟨_, by first | rfl | (simp [errW_none, errW_some] <;> rfl) | (simp [*, errW_none, errW_some] <;> rfl), by (with_reducible repeat (first | apply Kd.R_alloc | apply Kd.R_drewN | apply Kd.R_drew)); exact HO_5.out, by repeat (first | (with_reducible first | exact HB.out | apply below_alloc | apply pw_below_drewN | apply below_drew1) | exact HB.out)⟩

/-! ### stickfulref13_edge: function 121 -/
def stickfulref13_edge.f (a0_0 : Int) (a0_1 : Int) (a0_2 : Int) (a0_3 : Int) (a0_4 : Bool) (a0_5 : Bool) : Option (Bool) := if a0_0 = 7 then (some true) else (if a0_0 = 8 then (some true) else (some (a0_0 == 5)))
set_option maxHeartbeats 8000000 in
set_option maxRecDepth 100000 in
theorem stickfulref13_edge.calls (a0_0 : Int) (a0_1 : Int) (a0_2 : Int) (a0_3 : Int) (a0_4 : Bool) (a0_5 : Bool) (r : Bool) (w : World) (h : stickfulref13_edge.f a0_0 a0_1 a0_2 a0_3 a0_4 a0_5 = some r) :
    Calls Try.prog 121 #[.agg #[.int .u8 a0_0, .int .i64 a0_1, .int .i64 a0_2, .int .i64 a0_3, .bool a0_4, .bool a0_5]] w fun e w' => e = .returned (.bool r) ∧ Below w.heap.size w w' := by
  have hu25 := Try.underlying25
  have HB := Aside0.mk (Below.refl w.heap.size w)
  have H : (if a0_0 = 7 then (some true) else (if a0_0 = 8 then (some true) else (some (a0_0 == 5)))) = some r := h
  clear h
  by_cases c2 : a0_0 = 7
  · rw [if_pos c2] at H
    have c2b0 : (a0_0 == 7) = true := beq_iff_eq.mpr c2
    have c2b1 : (a0_0 != 7) = false := bne_eq_false_iff_eq.mpr c2
    clear c2
    obtain rfl := Option.some.inj H
    go_enter Try.func121, Try.ntmps121
    go_wp2_with (first | ((with_reducible refine gate_dst (N := 1) rfl ?_); refine box_event ?hg (N := 1) ?hd (cs := #[.int .u8 a0_0, .int .i64 a0_1, .int .i64 a0_2, .int .i64 a0_3, .bool a0_4, .bool a0_5]) (t := 25) ?hr ?_; (case hd => rfl); (case hg => rfl); (case hr => first | (go_simp; done) | (go_simp; rfl)); intro gb149 hg w3 hbox hb; have n0_ := Aside0.mk (below_step (by repeat (first | (with_reducible first | exact HB.out | apply below_alloc | apply pw_below_drewN | apply below_drew1) | exact HB.out)) hb); have n1_ := Aside0.mk (hbox); have n2_ := Aside0.mk ((by rw [hg]; exact (below_size (by repeat (first | (with_reducible first | exact HB.out | apply below_alloc | apply pw_below_drewN | apply below_drew1) | exact HB.out))) : w.heap.size ≤ gb149)); have n3_ := Aside0.mk ((by rw [hg]; exact (below_size (by repeat (first | (with_reducible first | exact HB.out | apply below_alloc | apply pw_below_drewN | apply below_drew1) | exact HB.out))) : w.heap.size ≤ gb149)); clear HB; have HB := n0_; have BK149 := n1_; have GW149 := n2_; have GE149 := n3_; clear n0_ n1_ n2_ n3_; clear hb hbox hg; have hcz4_0 : w3.cell? ⟨gb149, 0, none⟩ = some (.int .u8 a0_0) := (blk_cell BK149.out 0).trans rfl; have hcz4_1 : w3.cell? ⟨gb149, 1, none⟩ = some (.int .i64 a0_1) := (blk_cell BK149.out 1).trans rfl; have hcz4_2 : w3.cell? ⟨gb149, 2, none⟩ = some (.int .i64 a0_2) := (blk_cell BK149.out 2).trans rfl; have hcz4_3 : w3.cell? ⟨gb149, 3, none⟩ = some (.int .i64 a0_3) := (blk_cell BK149.out 3).trans rfl; have hcz4_4 : w3.cell? ⟨gb149, 4, none⟩ = some (.bool a0_4) := (blk_cell BK149.out 4).trans rfl; have hcz4_5 : w3.cell? ⟨gb149, 5, none⟩ = some (.bool a0_5) := (blk_cell BK149.out 5).trans rfl; have hfz4_0 := blk_frozen BK149.out 0; have hfz4_1 := blk_frozen BK149.out 1; have hfz4_2 := blk_frozen BK149.out 2; have hfz4_3 := blk_frozen BK149.out 3; have hfz4_4 := blk_frozen BK149.out 4; have hfz4_5 := blk_frozen BK149.out 5))
    go_ret
    exact ⟨by first | rfl | (simp [errW_none, errW_some] <;> rfl) | (simp [*, errW_none, errW_some] <;> rfl), by repeat (first | (with_reducible first | exact HB.out | apply below_alloc | apply pw_below_drewN | apply below_drew1 | refine below_set ?_ GE149.out) | exact HB.out)⟩
  · rw [if_neg c2] at H
    have c2b0 : (a0_0 == 7) = false := beq_eq_false_iff_ne.mpr c2
    have c2b1 : (a0_0 != 7) = true := bne_iff_ne.mpr c2
    by_cases c5 : a0_0 = 8
    · rw [if_pos c5] at H
      have c5b0 : (a0_0 == 8) = true := beq_iff_eq.mpr c5
      have c5b1 : (a0_0 != 8) = false := bne_eq_false_iff_eq.mpr c5
      clear c5
      obtain rfl := Option.some.inj H
      go_enter Try.func121, Try.ntmps121
      go_wp2_with (first | ((with_reducible refine gate_dst (N := 1) rfl ?_); refine box_event ?hg (N := 1) ?hd (cs := #[.int .u8 a0_0, .int .i64 a0_1, .int .i64 a0_2, .int .i64 a0_3, .bool a0_4, .bool a0_5]) (t := 25) ?hr ?_; (case hd => rfl); (case hg => rfl); (case hr => first | (go_simp; done) | (go_simp; rfl)); intro gb149 hg w6 hbox hb; have n0_ := Aside0.mk (below_step (by repeat (first | (with_reducible first | exact HB.out | apply below_alloc | apply pw_below_drewN | apply below_drew1) | exact HB.out)) hb); have n1_ := Aside0.mk (hbox); have n2_ := Aside0.mk ((by rw [hg]; exact (below_size (by repeat (first | (with_reducible first | exact HB.out | apply below_alloc | apply pw_below_drewN | apply below_drew1) | exact HB.out))) : w.heap.size ≤ gb149)); have n3_ := Aside0.mk ((by rw [hg]; exact (below_size (by repeat (first | (with_reducible first | exact HB.out | apply below_alloc | apply pw_below_drewN | apply below_drew1) | exact HB.out))) : w.heap.size ≤ gb149)); clear HB; have HB := n0_; have BK149 := n1_; have GW149 := n2_; have GE149 := n3_; clear n0_ n1_ n2_ n3_; clear hb hbox hg; have hcz7_0 : w6.cell? ⟨gb149, 0, none⟩ = some (.int .u8 a0_0) := (blk_cell BK149.out 0).trans rfl; have hcz7_1 : w6.cell? ⟨gb149, 1, none⟩ = some (.int .i64 a0_1) := (blk_cell BK149.out 1).trans rfl; have hcz7_2 : w6.cell? ⟨gb149, 2, none⟩ = some (.int .i64 a0_2) := (blk_cell BK149.out 2).trans rfl; have hcz7_3 : w6.cell? ⟨gb149, 3, none⟩ = some (.int .i64 a0_3) := (blk_cell BK149.out 3).trans rfl; have hcz7_4 : w6.cell? ⟨gb149, 4, none⟩ = some (.bool a0_4) := (blk_cell BK149.out 4).trans rfl; have hcz7_5 : w6.cell? ⟨gb149, 5, none⟩ = some (.bool a0_5) := (blk_cell BK149.out 5).trans rfl; have hfz7_0 := blk_frozen BK149.out 0; have hfz7_1 := blk_frozen BK149.out 1; have hfz7_2 := blk_frozen BK149.out 2; have hfz7_3 := blk_frozen BK149.out 3; have hfz7_4 := blk_frozen BK149.out 4; have hfz7_5 := blk_frozen BK149.out 5))
      go_ret
      exact ⟨by first | rfl | (simp [errW_none, errW_some] <;> rfl) | (simp [*, errW_none, errW_some] <;> rfl), by repeat (first | (with_reducible first | exact HB.out | apply below_alloc | apply pw_below_drewN | apply below_drew1 | refine below_set ?_ GE149.out) | exact HB.out)⟩
    · rw [if_neg c5] at H
      have c5b0 : (a0_0 == 8) = false := beq_eq_false_iff_ne.mpr c5
      have c5b1 : (a0_0 != 8) = true := bne_iff_ne.mpr c5
      obtain rfl := Option.some.inj H
      go_enter Try.func121, Try.ntmps121
      go_wp2_with (first | ((with_reducible refine gate_dst (N := 1) rfl ?_); refine box_event ?hg (N := 1) ?hd (cs := #[.int .u8 a0_0, .int .i64 a0_1, .int .i64 a0_2, .int .i64 a0_3, .bool a0_4, .bool a0_5]) (t := 25) ?hr ?_; (case hd => rfl); (case hg => rfl); (case hr => first | (go_simp; done) | (go_simp; rfl)); intro gb149 hg w8 hbox hb; have n0_ := Aside0.mk (below_step (by repeat (first | (with_reducible first | exact HB.out | apply below_alloc | apply pw_below_drewN | apply below_drew1) | exact HB.out)) hb); have n1_ := Aside0.mk (hbox); have n2_ := Aside0.mk ((by rw [hg]; exact (below_size (by repeat (first | (with_reducible first | exact HB.out | apply below_alloc | apply pw_below_drewN | apply below_drew1) | exact HB.out))) : w.heap.size ≤ gb149)); have n3_ := Aside0.mk ((by rw [hg]; exact (below_size (by repeat (first | (with_reducible first | exact HB.out | apply below_alloc | apply pw_below_drewN | apply below_drew1) | exact HB.out))) : w.heap.size ≤ gb149)); clear HB; have HB := n0_; have BK149 := n1_; have GW149 := n2_; have GE149 := n3_; clear n0_ n1_ n2_ n3_; clear hb hbox hg; have hcz9_0 : w8.cell? ⟨gb149, 0, none⟩ = some (.int .u8 a0_0) := (blk_cell BK149.out 0).trans rfl; have hcz9_1 : w8.cell? ⟨gb149, 1, none⟩ = some (.int .i64 a0_1) := (blk_cell BK149.out 1).trans rfl; have hcz9_2 : w8.cell? ⟨gb149, 2, none⟩ = some (.int .i64 a0_2) := (blk_cell BK149.out 2).trans rfl; have hcz9_3 : w8.cell? ⟨gb149, 3, none⟩ = some (.int .i64 a0_3) := (blk_cell BK149.out 3).trans rfl; have hcz9_4 : w8.cell? ⟨gb149, 4, none⟩ = some (.bool a0_4) := (blk_cell BK149.out 4).trans rfl; have hcz9_5 : w8.cell? ⟨gb149, 5, none⟩ = some (.bool a0_5) := (blk_cell BK149.out 5).trans rfl; have hfz9_0 := blk_frozen BK149.out 0; have hfz9_1 := blk_frozen BK149.out 1; have hfz9_2 := blk_frozen BK149.out 2; have hfz9_3 := blk_frozen BK149.out 3; have hfz9_4 := blk_frozen BK149.out 4; have hfz9_5 := blk_frozen BK149.out 5))
      go_ret
      exact ⟨by first | rfl | (simp [errW_none, errW_some] <;> rfl) | (simp [*, errW_none, errW_some] <;> rfl), by repeat (first | (with_reducible first | exact HB.out | apply below_alloc | apply pw_below_drewN | apply below_drew1 | refine below_set ?_ GE149.out) | exact HB.out)⟩

end Go.Proofs.Ytkcmehijmgjgfaa.MIntrinsicTells
