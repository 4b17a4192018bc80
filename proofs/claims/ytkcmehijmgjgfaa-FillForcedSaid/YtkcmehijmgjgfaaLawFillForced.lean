/-
  FillForced: for every input the law returns true, and its arguments read as they did. Conditions: none beyond the row's own.
-/
import Derived.Test.YtkcmehijmgjgfaaRows
import Derived.Test.YtkcmehijmgjgfaaPureFillForced
import Derived.Test.YtkcmehijmgjgfaaOpenCells
import Derived.WalkKit
import Derived.ChangeSame
import Derived.ProofKit
import Derived.OpenShut
import Derived.ShutString
import Derived.ChangeOld
import Derived.Below
import Derived.SizedLaws
namespace Go.Proofs.Ytkcmehijmgjgfaa.fillForced
open Go.ChangeShapes Go.WideShapes Go.ChangeAt Go.RowKit
open Go.Proofs.YtkcmehijmgjgfaaW.PrintWords Go.Proofs.Ytkcmehijmgjgfaa.MFillForced
set_option linter.unusedVariables false
set_option linter.unusedSimpArgs false
theorem own : ownKnob Try.prog.godebug = none := by kernel_rfl
theorem laidOut : laidOutB Try.prog = true := by kernel_rfl
def InR (c : S25) : Prop := (0 ≤ c.f0 ∧ c.f0 ≤ 255) ∧ -9223372036854775808 ≤ c.f3 ∧ c.f3 ≤ 9223372036854775807
theorem wf8 {n : Int} (h : (Lit.int .u8 n).wf = true) : 0 ≤ n ∧ n ≤ 255 := by
  simp only [Lit.wf, IntKind.min, IntKind.max, IntKind.signed, IntKind.bits, Bool.and_eq_true, decide_eq_true_eq] at h
  simp at h; omega
theorem wf16 {n : Int} (h : (Lit.int .u16 n).wf = true) : 0 ≤ n ∧ n ≤ 65535 := by
  simp only [Lit.wf, IntKind.min, IntKind.max, IntKind.signed, IntKind.bits, Bool.and_eq_true, decide_eq_true_eq] at h
  simp at h; omega
theorem wf64 {n : Int} (h : (Lit.int .i64 n).wf = true) : -9223372036854775808 ≤ n ∧ n ≤ 9223372036854775807 := by
  simp only [Lit.wf, IntKind.min, IntKind.max, IntKind.signed, IntKind.bits, Bool.and_eq_true, decide_eq_true_eq] at h
  simp at h; omega
theorem open_cells {H : Type} {enc : TypeId × Value → H} {w : World} {base : Nat} {spare : Nat → Bool} {held : Bool} {fuel : Nat} {a0 : Option Addr} {len cap : Nat} {x : DataW H × List MemPlace}
    (h : DataW.trod enc Try.prog w base spare held fuel 22 (Value.slice a0 len cap).cells.toList = some x) : len ≤ cap ∧ ∃ zs : List S25, zs.length = len ∧ Kd.C k25 w a0 len zs ∧ ∀ c ∈ zs, InR c := by
  rcases OpenCells.open_fields Try.underlying22 Try.underlying25 (by kernel_rfl) (by kernel_rfl) h with ⟨rfl, rfl, rfl⟩ | ⟨a, rfl, hl, hm, hf⟩
  · exact ⟨Nat.le_refl _, [], rfl, Kd.C_nil _ _, fun c hc => by cases hc⟩
  · refine ⟨hl, ?_⟩
    have hex : ∀ i, i < len → ∃ c : S25, w.cell? (a.add (i * 6 + 0)) = some (.int .u8 c.f0) ∧ w.cell? (a.add (i * 6 + 1)) = some (.int .i64 c.f1) ∧ w.cell? (a.add (i * 6 + 2)) = some (.int .i64 c.f2) ∧
        w.cell? (a.add (i * 6 + 3)) = some (.int .i64 c.f3) ∧ w.cell? (a.add (i * 6 + 4)) = some (.bool c.f4) ∧ w.cell? (a.add (i * 6 + 5)) = some (.bool c.f5) ∧ InR c := by
      intro i hi
      obtain ⟨_, v0, y0, c0, t0⟩ := hf i hi 0 _ rfl
      obtain ⟨_, v1, y1, c1, t1⟩ := hf i hi 1 _ rfl
      obtain ⟨_, v2, y2, c2, t2⟩ := hf i hi 2 _ rfl
      obtain ⟨_, v3, y3, c3, t3⟩ := hf i hi 3 _ rfl
      obtain ⟨_, v4, y4, c4, t4⟩ := hf i hi 4 _ rfl
      obtain ⟨_, v5, y5, c5, t5⟩ := hf i hi 5 _ rfl
      obtain ⟨n0, e0, _, g0⟩ := DataW.trod_int (k := .u8) (by kernel_rfl) t0
      obtain ⟨n1, e1, _, g1⟩ := DataW.trod_int (k := .i64) (by kernel_rfl) t1
      obtain ⟨n2, e2, _, g2⟩ := DataW.trod_int (k := .i64) (by kernel_rfl) t2
      obtain ⟨n3, e3, _, g3⟩ := DataW.trod_int (k := .i64) (by kernel_rfl) t3
      obtain ⟨b4, e4, _⟩ := DataW.trod_bool (by kernel_rfl) t4
      obtain ⟨b5, e5, _⟩ := DataW.trod_bool (by kernel_rfl) t5
      cases e0; cases e1; cases e2; cases e3; cases e4; cases e5
      exact ⟨⟨n0, n1, n2, n3, b4, b5⟩, c0, c1, c2, c3, c4, c5, wf8 g0, wf64 g3⟩
    obtain ⟨f, hf2⟩ := Classical.axiomOfChoice (fun i : { i // i < len } => hex i.1 i.2)
    refine ⟨List.ofFn (fun i : Fin len => f ⟨i.1, i.2⟩), by simp, ⟨by simp, by simp only [maxLen] at hm; omega, fun _ => ⟨a, rfl, fun j p hj => ?_⟩⟩, fun c hc => by
      obtain ⟨j, rfl⟩ := List.mem_ofFn.1 hc
      exact (hf2 ⟨j.1, j.2⟩).2.2.2.2.2.2⟩
    obtain ⟨hjl, rfl⟩ := List.getElem?_eq_some_iff.1 hj
    simp only [List.length_ofFn] at hjl
    simp only [List.getElem_ofFn]
    refine ⟨_, rfl, k25_mk _ _, fun i u hu => ?_⟩
    obtain ⟨q0, q1, q2, q3, q4, q5, _⟩ := hf2 ⟨j, hjl⟩
    match i, hu with
    | 0, hu => cases hu; exact q0
    | 1, hu => cases hu; exact q1
    | 2, hu => cases hu; exact q2
    | 3, hu => cases hu; exact q3
    | 4, hu => cases hu; exact q4
    | 5, hu => cases hu; exact q5
    | n + 6, hu => simp at hu

set_option maxRecDepth 100000 in
theorem open_room {H : Type} {enc : TypeId × Value → H} {w w2 : World} {base b2 : Nat} {spare : Nat → Bool} {held : Bool} {fuel : Nat} {v : Value} {r : Reach} {x : DataW H × List MemPlace}
    (hval : Value.okWide Try.prog w2 r b2 45 v) (h : DataW.trod enc Try.prog w base spare held fuel 45 v.cells.toList = some x) :
    ∃ a b : Int, v = .agg #[.int .i64 a, .int .i64 b] ∧ (Lit.int .i64 a).wf = true ∧ (Lit.int .i64 b).wf = true := by
  obtain ⟨cs, rfl, hsz⟩ := okWide_struct Try.underlying45 hval
  obtain ⟨y0, y1, n, _, hl, t0, t1⟩ := trod_struct2 Try.underlying45 h
  have hc : Try.prog.cellsOf 45 = 2 := by kernel_rfl
  have hi : Try.prog.cellsOf 2 = 1 := by kernel_rfl
  rw [hc] at hsz
  obtain ⟨u, v, rfl⟩ : ∃ u v, cs = #[u, v] := by
    rcases cs with ⟨l⟩
    match l, hsz with
    | [u, v], _ => exact ⟨u, v, rfl⟩
  dsimp only at t0 t1
  rw [hi] at t0 t1
  obtain ⟨a, e0, _, g0⟩ := DataW.trod_int (k := .i64) (by kernel_rfl) t0
  obtain ⟨b, e1, _, g1⟩ := DataW.trod_int (k := .i64) (by kernel_rfl) t1
  simp [Value.cells] at e0 e1
  subst e0 e1
  exact ⟨a, b, rfl, g0, g1⟩
set_option maxRecDepth 100000 in
theorem lifted (os : Os) (started : os.Started) (H : Type) (enc : TypeId × Value → H) :
    ReturnsInHanded {} Try.checked os 11 .any (Rows.fillForcedSpec.pre6 enc Try.prog Try.f11 Rows.fillForcedRow.domain false) (Rows.fillForcedSpec.post enc Try.prog Try.f11 false true false false) := by
  refine returnsInHanded_of_change_sized (C := Try.checked) own started (by kernel_rfl) Try.func11
    (ChangeSpec.witness6 (enc := enc) (C := Try.checked) false ⟨#[], #[.slice none 0 0, .agg #[.int .i64 0, .int .i64 0], .agg #[.int .i64 0, .int .i64 0]], []⟩ 8 (by kernel_rfl) (by kernel_rfl) (by kernel_rfl) (by kernel_rfl)) ?_
  intro W base args ds gs before hval0 hW hcnd hsz0 _
  have hval : ∀ (j : Nat) t v, Try.f11.params[j]? = some t → args[j]? = some v → Value.okWide Try.prog W .any base t v := hval0
  have hW' := hW
  obtain ⟨p, q, hA0, hV, rfl, hfz, hnd⟩ := hW
  have hA : DataW.TrodAll enc Try.prog W 0 (fun _ => true) true Try.f11.params.toList args.toList ds p := hA0
  rw [Try.params11] at hA hval
  obtain ⟨v0, vs0, d0, ds0, p0, q0, hargs, rfl, rfl, h0, r0⟩ := trodAll_cons hA
  obtain ⟨v1, vs1, d1, ds1, p1, q1, rfl, rfl, rfl, h1, r1⟩ := trodAll_cons r0
  obtain ⟨v2, vs2, d2, ds2, p2, q2, rfl, rfl, rfl, h2, r2⟩ := trodAll_cons r1
  obtain ⟨rfl, rfl, rfl⟩ := trodAll_nil r2
  obtain rfl : args = #[v0, v1, v2] := by cases args; simp_all
  obtain ⟨rfl, rfl⟩ := trodVars_none hV
  obtain ⟨a0, len0, cap0, rfl⟩ := okWide_slice Try.underlying22 (hval 0 22 v0 rfl rfl)
  have k0 := h0
  have lt0 : ∀ x ∈ p0, x.block < W.heap.size := by obtain ⟨m, hm⟩ := k0; exact DataW.trod_lt m _ _ _ hm
  obtain ⟨fuel0, hf0⟩ := h0
  obtain ⟨hle0, zs0, rfl, hC0, hR0⟩ := open_cells hf0
  have k1 := h1
  have lt1 : ∀ x ∈ p1, x.block < W.heap.size := by obtain ⟨m, hm⟩ := k1; exact DataW.trod_lt m _ _ _ hm
  obtain ⟨fuel1, hf1⟩ := h1
  obtain ⟨a1, b1, rfl, w1, u1⟩ := open_room (hval 1 45 v1 rfl rfl) hf1
  have k2 := h2
  have lt2 : ∀ x ∈ p2, x.block < W.heap.size := by obtain ⟨m, hm⟩ := k2; exact DataW.trod_lt m _ _ _ hm
  obtain ⟨fuel2, hf2⟩ := h2
  obtain ⟨a2, b2, rfl, w2, u2⟩ := open_room (hval 2 45 v2 rfl rfl) hf2
  clear hA0 hval0 hsz0
  refine (stickfullaw14_FillForced.calls 500 a0 cap0 zs0 a1 b1 a2 b2 true W hC0 hle0 (pureForced zs0 (fun c hc => (hR0 c hc).2) a1 b1 a2 b2 (wf64 u1) (wf64 u2))).mono fun e W' ⟨he, bel⟩ => ?_
  subst he
  exact ⟨_, rfl, _, _, _, [], _, [], hW', trodAll_mk1 (shut_bool Try.underlying4 _), (trodAll_cons_mk (Below.trod laidOut (by kernel_rfl) (of_decide_eq_true (by kernel_rfl)) k0 bel lt0) (trodAll_cons_mk (Below.trod laidOut (by kernel_rfl) (of_decide_eq_true (by kernel_rfl)) k1 bel lt1) (trodAll_cons_mk (Below.trod laidOut (by kernel_rfl) (of_decide_eq_true (by kernel_rfl)) k2 bel lt2) trodAll_mk0))), rfl, bel.frame _, fun h => by cases h⟩
theorem over : Rows.fillForcedRow.holds Try.pinned (OpenSpec.ofChange Rows.fillForcedSpec) :=
  OpenClaim.holds_of_wide 11 Try.f11 rfl rfl rfl rfl rfl rfl rfl ⟨rfl, rfl, rfl, rfl, rfl⟩ rfl rfl rfl rfl rfl (by kernel_rfl) Try.func11 (by kernel_rfl)
    (of_decide_eq_true (by kernel_rfl)) (by unfold Func.isWrapper; first | (rw [if_pos (by decide +kernel)]; kernel_rfl) | (rw [if_neg (by decide +kernel)]; exact ⟨rfl, rfl⟩))
    (fun os started H enc _ => lifted os started H enc)
theorem proved : Rows.FillForcedSaid := over
end Go.Proofs.Ytkcmehijmgjgfaa.fillForced
namespace Go.Proofs.Ytkcmehijmgjgfaa
theorem fillForced_holds : Rows.FillForcedSaid := fillForced.proved
#print axioms fillForced_holds
end Go.Proofs.Ytkcmehijmgjgfaa
