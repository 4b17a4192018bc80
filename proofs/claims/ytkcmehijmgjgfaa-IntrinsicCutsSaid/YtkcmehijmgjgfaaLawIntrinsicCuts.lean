/-
  IntrinsicCuts: for every input the law returns true, and its arguments read as they did. Conditions: none beyond the row's own.
-/
import Derived.Test.YtkcmehijmgjgfaaRows
import Derived.Test.YtkcmehijmgjgfaaPureIntrinsicCuts
import Derived.Test.YtkcmehijmgjgfaaOpenCells
import Derived.WalkKit
import Derived.ProofKit
import Derived.OpenShut
import Derived.ShutString
import Derived.ChangeOld
import Derived.Below
import Derived.SizedLaws
namespace Go.Proofs.Ytkcmehijmgjgfaa.intrinsicCuts
open Go.ChangeShapes Go.WideShapes Go.ChangeAt Go.RowKit
open Go.Proofs.YtkcmehijmgjgfaaW.PrintWords Go.Proofs.Ytkcmehijmgjgfaa.MIntrinsicCuts
set_option linter.unusedVariables false
set_option linter.unusedSimpArgs false
theorem own : ownKnob Try.prog.godebug = none := by kernel_rfl
theorem laidOut : laidOutB Try.prog = true := by kernel_rfl
theorem open_cells {H : Type} {enc : TypeId × Value → H} {w : World} {base : Nat} {spare : Nat → Bool} {held : Bool} {fuel : Nat} {a0 : Option Addr} {len cap : Nat} {x : DataW H × List MemPlace}
    (h : DataW.trod enc Try.prog w base spare held fuel 22 (Value.slice a0 len cap).cells.toList = some x) : len ≤ cap ∧ ∃ zs : List S25, zs.length = len ∧ Kd.C k25 w a0 len zs := by
  rcases OpenCells.open_fields Try.underlying22 Try.underlying25 (by kernel_rfl) (by kernel_rfl) h with ⟨rfl, rfl, rfl⟩ | ⟨a, rfl, hl, hm, hf⟩
  · exact ⟨Nat.le_refl _, [], rfl, Kd.C_nil _ _⟩
  · refine ⟨hl, ?_⟩
    have hex : ∀ i, i < len → ∃ c : S25, w.cell? (a.add (i * 6 + 0)) = some (.int .u8 c.f0) ∧ w.cell? (a.add (i * 6 + 1)) = some (.int .i64 c.f1) ∧ w.cell? (a.add (i * 6 + 2)) = some (.int .i64 c.f2) ∧
        w.cell? (a.add (i * 6 + 3)) = some (.int .i64 c.f3) ∧ w.cell? (a.add (i * 6 + 4)) = some (.bool c.f4) ∧ w.cell? (a.add (i * 6 + 5)) = some (.bool c.f5) := by
      intro i hi
      obtain ⟨_, v0, y0, c0, t0⟩ := hf i hi 0 _ rfl
      obtain ⟨_, v1, y1, c1, t1⟩ := hf i hi 1 _ rfl
      obtain ⟨_, v2, y2, c2, t2⟩ := hf i hi 2 _ rfl
      obtain ⟨_, v3, y3, c3, t3⟩ := hf i hi 3 _ rfl
      obtain ⟨_, v4, y4, c4, t4⟩ := hf i hi 4 _ rfl
      obtain ⟨_, v5, y5, c5, t5⟩ := hf i hi 5 _ rfl
      obtain ⟨n0, e0, _⟩ := DataW.trod_int (k := .u8) (by kernel_rfl) t0
      obtain ⟨n1, e1, _⟩ := DataW.trod_int (k := .i64) (by kernel_rfl) t1
      obtain ⟨n2, e2, _⟩ := DataW.trod_int (k := .i64) (by kernel_rfl) t2
      obtain ⟨n3, e3, _⟩ := DataW.trod_int (k := .i64) (by kernel_rfl) t3
      obtain ⟨b4, e4, _⟩ := DataW.trod_bool (by kernel_rfl) t4
      obtain ⟨b5, e5, _⟩ := DataW.trod_bool (by kernel_rfl) t5
      cases e0; cases e1; cases e2; cases e3; cases e4; cases e5
      exact ⟨⟨n0, n1, n2, n3, b4, b5⟩, c0, c1, c2, c3, c4, c5⟩
    obtain ⟨f, hf2⟩ := Classical.axiomOfChoice (fun i : { i // i < len } => hex i.1 i.2)
    refine ⟨List.ofFn (fun i : Fin len => f ⟨i.1, i.2⟩), by simp, by simp, by simp only [maxLen] at hm; omega, fun _ => ⟨a, rfl, fun j p hj => ?_⟩⟩
    obtain ⟨hjl, rfl⟩ := List.getElem?_eq_some_iff.1 hj
    simp only [List.length_ofFn] at hjl
    simp only [List.getElem_ofFn]
    refine ⟨_, rfl, k25_mk _ _, fun i u hu => ?_⟩
    obtain ⟨q0, q1, q2, q3, q4, q5⟩ := hf2 ⟨j, hjl⟩
    match i, hu with
    | 0, hu => cases hu; exact q0
    | 1, hu => cases hu; exact q1
    | 2, hu => cases hu; exact q2
    | 3, hu => cases hu; exact q3
    | 4, hu => cases hu; exact q4
    | 5, hu => cases hu; exact q5
    | n + 6, hu => simp at hu

set_option maxRecDepth 100000 in
theorem lifted (os : Os) (started : os.Started) (H : Type) (enc : TypeId × Value → H) :
    ReturnsInHanded {} Try.checked os 7 .any (Rows.intrinsicCutsSpec.pre6 enc Try.prog Try.f7 Rows.intrinsicCutsRow.domain false) (Rows.intrinsicCutsSpec.post enc Try.prog Try.f7 false true false false) := by
  refine returnsInHanded_of_change_sized (C := Try.checked) own started (by kernel_rfl) Try.func7
    (ChangeSpec.witness6 (enc := enc) (C := Try.checked) false ⟨#[], #[.slice none 0 0], []⟩ 8 (by kernel_rfl) (by kernel_rfl) (by kernel_rfl) (by kernel_rfl)) ?_
  intro W base args ds gs before hval0 hW hcnd hsz0 _
  have hval : ∀ (j : Nat) t v, Try.f7.params[j]? = some t → args[j]? = some v → Value.okWide Try.prog W .any base t v := hval0
  have hW' := hW
  obtain ⟨p, q, hA0, hV, rfl, hfz, hnd⟩ := hW
  have hA : DataW.TrodAll enc Try.prog W 0 (fun _ => true) true Try.f7.params.toList args.toList ds p := hA0
  rw [Try.params7] at hA hval
  obtain ⟨v0, vs0, d0, ds0, p0, q0, hargs, rfl, rfl, h0, r0⟩ := trodAll_cons hA
  obtain ⟨rfl, rfl, rfl⟩ := trodAll_nil r0
  obtain rfl : args = #[v0] := by cases args; simp_all
  obtain ⟨rfl, rfl⟩ := trodVars_none hV
  obtain ⟨a0, len0, cap0, rfl⟩ := okWide_slice Try.underlying22 (hval 0 22 v0 rfl rfl)
  have k0 := h0
  have lt0 : ∀ x ∈ p0, x.block < W.heap.size := by obtain ⟨m, hm⟩ := k0; exact DataW.trod_lt m _ _ _ hm
  obtain ⟨fuel, hf⟩ := h0
  obtain ⟨hle, zs, rfl, hC⟩ := open_cells hf
  clear hA0 hval0 hsz0
  refine (stickfullaw21_IntrinsicCuts.calls 1000 a0 cap0 zs true W hC hle (pure zs)).mono fun e W' ⟨he, bel⟩ => ?_
  subst he
  exact ⟨_, rfl, _, _, _, [], _, [], hW', trodAll_mk1 (shut_bool Try.underlying4 _), (trodAll_cons_mk (Below.trod laidOut (by kernel_rfl) (of_decide_eq_true (by kernel_rfl)) k0 bel lt0) trodAll_mk0), rfl, bel.frame _, fun h => by cases h⟩
theorem over : Rows.intrinsicCutsRow.holds Try.pinned (OpenSpec.ofChange Rows.intrinsicCutsSpec) :=
  OpenClaim.holds_of_wide 7 Try.f7 rfl rfl rfl rfl rfl rfl rfl ⟨rfl, rfl, rfl, rfl, rfl⟩ rfl rfl rfl rfl rfl (by kernel_rfl) Try.func7 (by kernel_rfl)
    (of_decide_eq_true (by kernel_rfl)) (by unfold Func.isWrapper; first | (rw [if_pos (by decide +kernel)]; kernel_rfl) | (rw [if_neg (by decide +kernel)]; exact ⟨rfl, rfl⟩))
    (fun os started H enc _ => lifted os started H enc)
theorem proved : Rows.IntrinsicCutsSaid := over
end Go.Proofs.Ytkcmehijmgjgfaa.intrinsicCuts
namespace Go.Proofs.Ytkcmehijmgjgfaa
theorem intrinsicCuts_holds : Rows.IntrinsicCutsSaid := intrinsicCuts.proved
#print axioms intrinsicCuts_holds
end Go.Proofs.Ytkcmehijmgjgfaa
