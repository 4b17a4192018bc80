-- Written by a program of this session for this claim.
import Derived.Test.YtkcmehijmgjgfaaProg
import Derived.BigQuiet
import Derived.KernelRfl
namespace Go.Proofs.Ytkcmehijmgjgfaa.MIntrinsicCuts
open Go
set_option linter.unusedSimpArgs false
set_option linter.unusedVariables false
def stickfullaw21_IntrinsicCuts_reg (id : Nat) : Code → Option (List Oper)
  | .region k ops _ => if k = id then some ops.toList else none
  | .seq a b => (stickfullaw21_IntrinsicCuts_reg id a).orElse fun _ => stickfullaw21_IntrinsicCuts_reg id b
  | .cond _ a b => (stickfullaw21_IntrinsicCuts_reg id a).orElse fun _ => stickfullaw21_IntrinsicCuts_reg id b
  | .block _ a => stickfullaw21_IntrinsicCuts_reg id a
  | .loop a => stickfullaw21_IntrinsicCuts_reg id a
  | .rangeFunc _ _ a b => (stickfullaw21_IntrinsicCuts_reg id a).orElse fun _ => stickfullaw21_IntrinsicCuts_reg id b
  | .scope a => stickfullaw21_IntrinsicCuts_reg id a
  | _ => none
noncomputable def stickfullaw21_IntrinsicCuts_at (id : Nat) : Option (List Oper) := Try.f7.body.bind (stickfullaw21_IntrinsicCuts_reg id)
noncomputable def stickfullaw21_IntrinsicCuts_ok (id : Nat) : Bool := match stickfullaw21_IntrinsicCuts_at id with | some l => Region.lexB .any l.toArray | none => false
theorem stickfullaw21_IntrinsicCuts_ok10 : stickfullaw21_IntrinsicCuts_ok 10 = true := by kernel_rfl
theorem stickfullaw21_IntrinsicCuts_lex {id : Nat} {l : List Oper} (h : [10].contains id = true) (hl : stickfullaw21_IntrinsicCuts_at id = some l) : Region.lexB .any l.toArray = true := by
  have hk : stickfullaw21_IntrinsicCuts_ok id = true := by
    simp only [List.contains_cons, List.contains_nil, Bool.or_eq_true, beq_iff_eq, Bool.or_false] at h
    rcases h with rfl
    · exact stickfullaw21_IntrinsicCuts_ok10
  unfold stickfullaw21_IntrinsicCuts_ok at hk
  rw [hl] at hk
  exact hk
theorem stickfullaw21_IntrinsicCuts_quiet {id : Nat} {Q : Exit → Act → World → Prop} {a : Act} {w : World} {l : List Oper} (hm : Try.prog.follows .mixedOrders = true) (hc : [10].contains id = true) (hl : stickfullaw21_IntrinsicCuts_at id = some l)
    (h : wpQuiet Try.prog l.toArray (fun w' => ∃ n, w' = w.drewN n) (fun a' => ∀ w', (∃ n, w' = w.drewN n) → Q .normal a' w') l a) : (Code.region id l.toArray true).wp Try.prog Q a w :=
  wp_region_quiet_lit hm (stickfullaw21_IntrinsicCuts_lex hc hl) h
end Go.Proofs.Ytkcmehijmgjgfaa.MIntrinsicCuts
