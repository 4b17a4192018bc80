-- Written by a program of this session for this claim.
import Derived.Test.YtkcmehijmgjgfaaMIntrinsicCutsq7
import Derived.Test.YtkcmehijmgjgfaaMIntrinsicCutsx0
import Derived.Test.YtkcmehijmgjgfaaMIntrinsicCutsx5
namespace Go.Proofs.Ytkcmehijmgjgfaa.MIntrinsicCuts
open Go.RowKit Go.Proofs.YtkcmehijmgjgfaaW.PrintWords Go.Proofs.YtkcmehijmgjgfaaW.PrintLast Go.Proofs.YtkcmehijmgjgfaaW.PrintMore
attribute [local go_sem] max2_int min2_int max_two min_two max_three min_three max_four min_four   -- for this text's walks alone
set_option linter.unusedVariables false
set_option linter.unusedSimpArgs false

attribute [local irreducible] Go.wpStill Go.wpQuiet
/-! ### stickfullaw21_IntrinsicCuts: function 7 -/
mutual
def stickfullaw21_IntrinsicCuts.l0 : Nat → List (S25) → List (S43) → List (S43) → Int → Int → Int → Option (Bool)
  | 0, _, _, _, _, _, _ => none
  | k + 1, x0, x3, x4, x5, x6, x7 => if x7 < (x3.length : Int) then (if 0 ≤ x7 then (if ((rd_T43 x3 x7).f0) = x5 then (if ((rd_T43 x3 x7).f1) ≤ x5 then (stickfullaw21_IntrinsicCuts.j1 k x0 x3 x4 x5 x6 x7 true) else (if ((rd_T43 x3 x7).f1) > (x0.length : Int) then (stickfullaw21_IntrinsicCuts.j1 k x0 x3 x4 x5 x6 x7 true) else (stickfullaw21_IntrinsicCuts.j1 k x0 x3 x4 x5 x6 x7 (decide (x6 ≥ (x4.length : Int)))))) else (stickfullaw21_IntrinsicCuts.j1 k x0 x3 x4 x5 x6 x7 true)) else (none)) else (stickfullaw21_IntrinsicCuts.l1 k x0 x4 x5 x6 0)
def stickfullaw21_IntrinsicCuts.j1 : Nat → List (S25) → List (S43) → List (S43) → Int → Int → Int → Bool → Option (Bool)
  | 0, _, _, _, _, _, _, _ => none
  | k + 1, x0, x3, x4, x5, x6, x7, x53 => if x53 = true then (some false) else (if x5 > 0 then (if 0 ≤ x5 then (if x5 < (x0.length : Int) then (if ((rd_T25 x0 x5).f4 = true) then (if 0 ≤ x6 then (if x6 < (x4.length : Int) then (if 0 ≤ x7 then (if x7 < (x3.length : Int) then (if ((rd_T43 x4 x6).f1) < ((rd_T43 x3 x7).f1) then (stickfullaw21_IntrinsicCuts.j2 k x0 x3 x4 x6 x7 true) else (if ((rd_T43 x3 x7).f0) = ((rd_T43 x4 x6).f0) then (if x6 > 0 then (if 0 ≤ (wrap64 (x6 - 1)) then (if (wrap64 (x6 - 1)) < (x4.length : Int) then (stickfullaw21_IntrinsicCuts.j2 k x0 x3 x4 x6 x7 (((rd_T43 x4 x6).f0) != ((rd_T43 x4 (wrap64 (x6 - 1))).f1))) else (none)) else (none)) else (stickfullaw21_IntrinsicCuts.j2 k x0 x3 x4 x6 x7 false)) else (stickfullaw21_IntrinsicCuts.j2 k x0 x3 x4 x6 x7 false))) else (none)) else (none)) else (none)) else (none)) else (if ((rd_T25 x0 x5).f5 = true) then (if 0 ≤ x6 then (if x6 < (x4.length : Int) then (if 0 ≤ x7 then (if x7 < (x3.length : Int) then (if ((rd_T43 x4 x6).f1) < ((rd_T43 x3 x7).f1) then (stickfullaw21_IntrinsicCuts.j2 k x0 x3 x4 x6 x7 true) else (if ((rd_T43 x3 x7).f0) = ((rd_T43 x4 x6).f0) then (if x6 > 0 then (if 0 ≤ (wrap64 (x6 - 1)) then (if (wrap64 (x6 - 1)) < (x4.length : Int) then (stickfullaw21_IntrinsicCuts.j2 k x0 x3 x4 x6 x7 (((rd_T43 x4 x6).f0) != ((rd_T43 x4 (wrap64 (x6 - 1))).f1))) else (none)) else (none)) else (stickfullaw21_IntrinsicCuts.j2 k x0 x3 x4 x6 x7 false)) else (stickfullaw21_IntrinsicCuts.j2 k x0 x3 x4 x6 x7 false))) else (none)) else (none)) else (none)) else (none)) else (if 0 ≤ (wrap64 (x5 - 1)) then (if (wrap64 (x5 - 1)) < (x0.length : Int) then (if ((rd_T25 x0 (wrap64 (x5 - 1))).f0) = 5 then (if 0 ≤ x6 then (if x6 < (x4.length : Int) then (if 0 ≤ x7 then (if x7 < (x3.length : Int) then (if ((rd_T43 x4 x6).f1) < ((rd_T43 x3 x7).f1) then (stickfullaw21_IntrinsicCuts.j2 k x0 x3 x4 x6 x7 true) else (if ((rd_T43 x3 x7).f0) = ((rd_T43 x4 x6).f0) then (if x6 > 0 then (if 0 ≤ (wrap64 (x6 - 1)) then (if (wrap64 (x6 - 1)) < (x4.length : Int) then (stickfullaw21_IntrinsicCuts.j2 k x0 x3 x4 x6 x7 (((rd_T43 x4 x6).f0) != ((rd_T43 x4 (wrap64 (x6 - 1))).f1))) else (none)) else (none)) else (stickfullaw21_IntrinsicCuts.j2 k x0 x3 x4 x6 x7 false)) else (stickfullaw21_IntrinsicCuts.j2 k x0 x3 x4 x6 x7 false))) else (none)) else (none)) else (none)) else (none)) else (stickfullaw21_IntrinsicCuts.j2 k x0 x3 x4 x6 x7 true)) else (none)) else (none)))) else (none)) else (none)) else (if 0 ≤ x6 then (if x6 < (x4.length : Int) then (if 0 ≤ x7 then (if x7 < (x3.length : Int) then (if ((rd_T43 x4 x6).f1) < ((rd_T43 x3 x7).f1) then (stickfullaw21_IntrinsicCuts.j2 k x0 x3 x4 x6 x7 true) else (if ((rd_T43 x3 x7).f0) = ((rd_T43 x4 x6).f0) then (if x6 > 0 then (if 0 ≤ (wrap64 (x6 - 1)) then (if (wrap64 (x6 - 1)) < (x4.length : Int) then (stickfullaw21_IntrinsicCuts.j2 k x0 x3 x4 x6 x7 (((rd_T43 x4 x6).f0) != ((rd_T43 x4 (wrap64 (x6 - 1))).f1))) else (none)) else (none)) else (stickfullaw21_IntrinsicCuts.j2 k x0 x3 x4 x6 x7 false)) else (stickfullaw21_IntrinsicCuts.j2 k x0 x3 x4 x6 x7 false))) else (none)) else (none)) else (none)) else (none)))
def stickfullaw21_IntrinsicCuts.j2 : Nat → List (S25) → List (S43) → List (S43) → Int → Int → Bool → Option (Bool)
  | 0, _, _, _, _, _, _ => none
  | k + 1, x0, x3, x4, x6, x7, x124 => if x124 = true then (some false) else (if 0 ≤ x7 then (if x7 < (x3.length : Int) then (if 0 ≤ x6 then (if x6 < (x4.length : Int) then (if ((rd_T43 x3 x7).f1) = ((rd_T43 x4 x6).f1) then (stickfullaw21_IntrinsicCuts.l0 k x0 x3 x4 ((rd_T43 x3 x7).f1) (wrap64 (x6 + 1)) (wrap64 (x7 + 1))) else (stickfullaw21_IntrinsicCuts.l0 k x0 x3 x4 ((rd_T43 x3 x7).f1) x6 (wrap64 (x7 + 1)))) else (none)) else (none)) else (none)) else (none))
def stickfullaw21_IntrinsicCuts.l1 : Nat → List (S25) → List (S43) → Int → Int → Int → Option (Bool)
  | 0, _, _, _, _, _ => none
  | k + 1, x0, x4, x5, x6, x8 => if x8 < (x4.length : Int) then (if 0 ≤ x8 then (if ((rd_T43 x4 x8).f1) < 1 then (some false) else (if ((rd_T43 x4 x8).f1) > (x0.length : Int) then (some false) else (if 0 ≤ (wrap64 (((rd_T43 x4 x8).f1) - 1)) then (if (wrap64 (((rd_T43 x4 x8).f1) - 1)) < (x0.length : Int) then (if ((rd_T25 x0 (wrap64 (((rd_T43 x4 x8).f1) - 1))).f0) = 5 then (stickfullaw21_IntrinsicCuts.l1 k x0 x4 x5 x6 (wrap64 (x8 + 1))) else (if ((rd_T43 x4 x8).f1) = (x0.length : Int) then (stickfullaw21_IntrinsicCuts.l1 k x0 x4 x5 x6 (wrap64 (x8 + 1))) else (some false))) else (none)) else (none)))) else (none)) else (if x5 = (x0.length : Int) then (if x6 = (x4.length : Int) then ((stickfullaw21_head.f).bind fun t178 => (some t178)) else (some false)) else (some false))
end
def stickfullaw21_IntrinsicCuts.f (k : Nat) (l0 : List (S25)) : Option (Bool) := (stickfullaw21_great.f l0).bind fun t133 => (if t133 = true then ((stickfullaw21_head.f).bind fun t134 => (some t134)) else ((intrinsic_Pieces.f l0).bind fun t135 => ((intrinsic_Lines.f l0).bind fun t138 => (stickfullaw21_IntrinsicCuts.l0 k l0 t135 t138 0 0 0))))
theorem stickfullaw21_IntrinsicCuts.mono_l : ∀ k, (∀ y0 y1 y2 y3 y4 y5, LeO (stickfullaw21_IntrinsicCuts.l0 k y0 y1 y2 y3 y4 y5) (stickfullaw21_IntrinsicCuts.l0 (k + 1) y0 y1 y2 y3 y4 y5)) ∧ (∀ y0 y1 y2 y3 y4 y5 y6, LeO (stickfullaw21_IntrinsicCuts.j1 k y0 y1 y2 y3 y4 y5 y6) (stickfullaw21_IntrinsicCuts.j1 (k + 1) y0 y1 y2 y3 y4 y5 y6)) ∧ (∀ y0 y1 y2 y3 y4 y5, LeO (stickfullaw21_IntrinsicCuts.j2 k y0 y1 y2 y3 y4 y5) (stickfullaw21_IntrinsicCuts.j2 (k + 1) y0 y1 y2 y3 y4 y5)) ∧ (∀ y0 y1 y2 y3 y4, LeO (stickfullaw21_IntrinsicCuts.l1 k y0 y1 y2 y3 y4) (stickfullaw21_IntrinsicCuts.l1 (k + 1) y0 y1 y2 y3 y4))
  | 0 => ⟨fun _ _ _ _ _ _ r h => by simp [stickfullaw21_IntrinsicCuts.l0] at h, fun _ _ _ _ _ _ _ r h => by simp [stickfullaw21_IntrinsicCuts.j1] at h, fun _ _ _ _ _ _ r h => by simp [stickfullaw21_IntrinsicCuts.j2] at h, fun _ _ _ _ _ r h => by simp [stickfullaw21_IntrinsicCuts.l1] at h⟩
  | k + 1 => by
    obtain ⟨ih0, ih1, ih2, ih3⟩ := stickfullaw21_IntrinsicCuts.mono_l k
    refine ⟨?_, ?_, ?_, ?_⟩
    · intro y0 y1 y2 y3 y4 y5
      unfold stickfullaw21_IntrinsicCuts.l0
      repeat' first
      | (with_reducible exact ih0 _ _ _ _ _ _)
      | (with_reducible exact ih1 _ _ _ _ _ _ _)
      | (with_reducible exact ih2 _ _ _ _ _ _)
      | (with_reducible exact ih3 _ _ _ _ _)
      | (with_reducible exact LeO.refl _)
      | (with_reducible exact LeO.none _)
      | (with_reducible refine LeO.ite ?_ ?_)
      | (with_reducible refine LeO.bind ?_ (fun _ => ?_))
      | exact ih0 _ _ _ _ _ _
      | exact ih1 _ _ _ _ _ _ _
      | exact ih2 _ _ _ _ _ _
      | exact ih3 _ _ _ _ _
      | exact LeO.none _
      | refine LeO.ite ?_ ?_
      | refine LeO.bind ?_ (fun _ => ?_)
    · intro y0 y1 y2 y3 y4 y5 y6
      unfold stickfullaw21_IntrinsicCuts.j1
      repeat' first
      | (with_reducible exact ih0 _ _ _ _ _ _)
      | (with_reducible exact ih1 _ _ _ _ _ _ _)
      | (with_reducible exact ih2 _ _ _ _ _ _)
      | (with_reducible exact ih3 _ _ _ _ _)
      | (with_reducible exact LeO.refl _)
      | (with_reducible exact LeO.none _)
      | (with_reducible refine LeO.ite ?_ ?_)
      | (with_reducible refine LeO.bind ?_ (fun _ => ?_))
      | exact ih0 _ _ _ _ _ _
      | exact ih1 _ _ _ _ _ _ _
      | exact ih2 _ _ _ _ _ _
      | exact ih3 _ _ _ _ _
      | exact LeO.none _
      | refine LeO.ite ?_ ?_
      | refine LeO.bind ?_ (fun _ => ?_)
    · intro y0 y1 y2 y3 y4 y5
      unfold stickfullaw21_IntrinsicCuts.j2
      repeat' first
      | (with_reducible exact ih0 _ _ _ _ _ _)
      | (with_reducible exact ih1 _ _ _ _ _ _ _)
      | (with_reducible exact ih2 _ _ _ _ _ _)
      | (with_reducible exact ih3 _ _ _ _ _)
      | (with_reducible exact LeO.refl _)
      | (with_reducible exact LeO.none _)
      | (with_reducible refine LeO.ite ?_ ?_)
      | (with_reducible refine LeO.bind ?_ (fun _ => ?_))
      | exact ih0 _ _ _ _ _ _
      | exact ih1 _ _ _ _ _ _ _
      | exact ih2 _ _ _ _ _ _
      | exact ih3 _ _ _ _ _
      | exact LeO.none _
      | refine LeO.ite ?_ ?_
      | refine LeO.bind ?_ (fun _ => ?_)
    · intro y0 y1 y2 y3 y4
      unfold stickfullaw21_IntrinsicCuts.l1
      repeat' first
      | (with_reducible exact ih0 _ _ _ _ _ _)
      | (with_reducible exact ih1 _ _ _ _ _ _ _)
      | (with_reducible exact ih2 _ _ _ _ _ _)
      | (with_reducible exact ih3 _ _ _ _ _)
      | (with_reducible exact LeO.refl _)
      | (with_reducible exact LeO.none _)
      | (with_reducible refine LeO.ite ?_ ?_)
      | (with_reducible refine LeO.bind ?_ (fun _ => ?_))
      | exact ih0 _ _ _ _ _ _
      | exact ih1 _ _ _ _ _ _ _
      | exact ih2 _ _ _ _ _ _
      | exact ih3 _ _ _ _ _
      | exact LeO.none _
      | refine LeO.ite ?_ ?_
      | refine LeO.bind ?_ (fun _ => ?_)
theorem stickfullaw21_IntrinsicCuts.mono : ∀ a0 k, LeO (stickfullaw21_IntrinsicCuts.f k a0) (stickfullaw21_IntrinsicCuts.f (k + 1) a0) := by
  intro a0 k
  obtain ⟨ih0, ih1, ih2, ih3⟩ := stickfullaw21_IntrinsicCuts.mono_l k
  unfold stickfullaw21_IntrinsicCuts.f
  repeat' first
      | (with_reducible exact ih0 _ _ _ _ _ _)
      | (with_reducible exact ih1 _ _ _ _ _ _ _)
      | (with_reducible exact ih2 _ _ _ _ _ _)
      | (with_reducible exact ih3 _ _ _ _ _)
      | (with_reducible exact LeO.refl _)
      | (with_reducible exact LeO.none _)
      | (with_reducible refine LeO.ite ?_ ?_)
      | (with_reducible refine LeO.bind ?_ (fun _ => ?_))
      | exact ih0 _ _ _ _ _ _
      | exact ih1 _ _ _ _ _ _ _
      | exact ih2 _ _ _ _ _ _
      | exact ih3 _ _ _ _ _
      | exact LeO.none _
      | refine LeO.ite ?_ ?_
      | refine LeO.bind ?_ (fun _ => ?_)
theorem stickfullaw21_IntrinsicCuts.j1_no : ∀ k y0 y1 y2 y3 y4 y5, stickfullaw21_IntrinsicCuts.j1 k y0 y1 y2 y3 y4 y5 true = some true → False := by
  intro k y0 y1 y2 y3 y4 y5 h
  cases k with
  | zero => rw [stickfullaw21_IntrinsicCuts.j1] at h; cases h
  | succ k => rw [stickfullaw21_IntrinsicCuts.j1, if_pos rfl] at h; cases h
theorem stickfullaw21_IntrinsicCuts.j2_no : ∀ k y0 y1 y2 y3 y4, stickfullaw21_IntrinsicCuts.j2 k y0 y1 y2 y3 y4 true = some true → False := by
  intro k y0 y1 y2 y3 y4 h
  cases k with
  | zero => rw [stickfullaw21_IntrinsicCuts.j2] at h; cases h
  | succ k => rw [stickfullaw21_IntrinsicCuts.j2, if_pos rfl] at h; cases h
set_option maxHeartbeats 8000000 in
set_option maxRecDepth 100000 in
theorem stickfullaw21_IntrinsicCuts.calls (k : Nat) (A0 : Option Addr) (c0 : Nat) (l0 : List (S25)) (_ : Bool) (w : World) (hr0 : Kd.C k25 w A0 l0.length l0) (hc0 : l0.length ≤ c0) (h : stickfullaw21_IntrinsicCuts.f k l0 = some true) :
    Calls Try.prog 7 #[.slice A0 l0.length c0] w fun e w' => e = .returned (.bool true) ∧ Below w.heap.size w w' := by
  have HR0 := Aside0.mk hr0
  have HC0 := Aside0.mk hc0
  clear hr0 hc0
  have HB := Aside0.mk (Below.refl w.heap.size w)
  have H : ((stickfullaw21_great.f l0).bind fun t133 => (if t133 = true then ((stickfullaw21_head.f).bind fun t134 => (some t134)) else ((intrinsic_Pieces.f l0).bind fun t135 => ((intrinsic_Lines.f l0).bind fun t138 => (stickfullaw21_IntrinsicCuts.l0 k l0 t135 t138 0 0 0))))) = some true := h
  clear h
  replace H := Option.bind_eq_some_iff.mp H
  obtain ⟨t133, A20, H⟩ := H
  replace H : (if t133 = true then ((stickfullaw21_head.f).bind fun t134 => (some t134)) else ((intrinsic_Pieces.f l0).bind fun t135 => ((intrinsic_Lines.f l0).bind fun t138 => (stickfullaw21_IntrinsicCuts.l0 k l0 t135 t138 0 0 0)))) = some true := H
  have A2 := Aside0.mk A20
  clear A20
  by_cases c3 : t133 = true
  · subst c3
    have H1 : ((stickfullaw21_head.f).bind fun t134 => (some t134)) = some true := by rw [if_pos rfl] at H; exact H
    clear H
    have H := H1
    clear H1
    replace H := Option.bind_eq_some_iff.mp H
    obtain ⟨t134, A40, H⟩ := H
    replace H : (some t134) = some true := H
    have A4 := Aside0.mk A40
    clear A40
    have hrt := Option.some.inj H
    first | exact absurd hrt (by decide) | skip
    all_goals (
      go_enter Try.func7, Try.ntmps7
      go_wp2_with (first | (go_at_call 24; (with_reducible refine (stickfullaw21_great.calls _ _ l0 true _ ?side1 ?side2 A2.out).mono ?_); (case side1 => repeat (first | exact HR0.out | (with_reducible refine Kd.C_alloc ?_ _) | (with_reducible refine Kd.C_drewN ?_ _) | (with_reducible refine Kd.C_drew ?_))); (case side2 => exact HC0.out); rintro e w' ⟨rfl, ⟨nd, rfl⟩⟩; (try first | exact ⟨rfl, _, World.drewN_drewN _ _ _⟩ | exact ⟨rfl, _, Eq.trans (World.drewN_drewN _ _ _) (congrArg (World.drewN _) (Nat.add_assoc _ _ _))⟩)) | (go_at_call 22; (with_reducible refine (stickfullaw21_head.calls  t134 _ A4.out).mono ?_); rintro e w5 ⟨rfl, hb⟩; have n0_ := Aside0.mk (below_step (by repeat (first | (with_reducible first | exact HB.out | apply below_alloc | apply pw_below_drewN | apply below_drew1) | exact HB.out)) hb); clear HB; have HB := n0_; clear n0_; (try clear hb); (try clear hb2); (try clear hk); (try clear hi)))
      repeat ((first | (refine stickfullaw21_IntrinsicCuts_quiet (by kernel_rfl) (by kernel_rfl) (by kernel_rfl) ?_; (try dsimp only [List.append]); (repeat (go_big_quiet_step (first | (go_at_call 24; (with_reducible refine (stickfullaw21_great.calls _ _ l0 true _ ?side1 ?side2 A2.out).mono ?_); (case side1 => repeat (first | exact HR0.out | (with_reducible refine Kd.C_alloc ?_ _) | (with_reducible refine Kd.C_drewN ?_ _) | (with_reducible refine Kd.C_drew ?_))); (case side2 => exact HC0.out); rintro e w' ⟨rfl, ⟨nd, rfl⟩⟩; (try first | exact ⟨rfl, _, World.drewN_drewN _ _ _⟩ | exact ⟨rfl, _, Eq.trans (World.drewN_drewN _ _ _) (congrArg (World.drewN _) (Nat.add_assoc _ _ _))⟩)) | (go_at_call 22; (with_reducible refine (stickfullaw21_head.calls  t134 _ A4.out).mono ?_); rintro e w5 ⟨rfl, hb⟩; have n0_ := Aside0.mk (below_step (by repeat (first | (with_reducible first | exact HB.out | apply below_alloc | apply pw_below_drewN | apply below_drew1) | exact HB.out)) hb); clear HB; have HB := n0_; clear n0_; (try clear hb); (try clear hb2); (try clear hk); (try clear hi))))); refine wpQuiet_nil ?_; intro _ hw'; obtain ⟨nq, hw''⟩ := hw'; subst hw'') | (refine stickfullaw21_IntrinsicCuts_quiet (by kernel_rfl) (by kernel_rfl) (by kernel_rfl) ?_; (try dsimp only [List.append]); (repeat (quiet_step (first | (go_at_call 24; (with_reducible refine (stickfullaw21_great.calls _ _ l0 true _ ?side1 ?side2 A2.out).mono ?_); (case side1 => repeat (first | exact HR0.out | (with_reducible refine Kd.C_alloc ?_ _) | (with_reducible refine Kd.C_drewN ?_ _) | (with_reducible refine Kd.C_drew ?_))); (case side2 => exact HC0.out); rintro e w' ⟨rfl, ⟨nd, rfl⟩⟩; (try first | exact ⟨rfl, _, World.drewN_drewN _ _ _⟩ | exact ⟨rfl, _, Eq.trans (World.drewN_drewN _ _ _) (congrArg (World.drewN _) (Nat.add_assoc _ _ _))⟩)) | (go_at_call 22; (with_reducible refine (stickfullaw21_head.calls  t134 _ A4.out).mono ?_); rintro e w5 ⟨rfl, hb⟩; have n0_ := Aside0.mk (below_step (by repeat (first | (with_reducible first | exact HB.out | apply below_alloc | apply pw_below_drewN | apply below_drew1) | exact HB.out)) hb); clear HB; have HB := n0_; clear n0_; (try clear hb); (try clear hb2); (try clear hk); (try clear hi))))); refine wpQuiet_nil ?_; intro _ hw'; obtain ⟨nq, hw''⟩ := hw'; subst hw'')); try go_wp2_with (first | (go_at_call 24; (with_reducible refine (stickfullaw21_great.calls _ _ l0 true _ ?side1 ?side2 A2.out).mono ?_); (case side1 => repeat (first | exact HR0.out | (with_reducible refine Kd.C_alloc ?_ _) | (with_reducible refine Kd.C_drewN ?_ _) | (with_reducible refine Kd.C_drew ?_))); (case side2 => exact HC0.out); rintro e w' ⟨rfl, ⟨nd, rfl⟩⟩; (try first | exact ⟨rfl, _, World.drewN_drewN _ _ _⟩ | exact ⟨rfl, _, Eq.trans (World.drewN_drewN _ _ _) (congrArg (World.drewN _) (Nat.add_assoc _ _ _))⟩)) | (go_at_call 22; (with_reducible refine (stickfullaw21_head.calls  t134 _ A4.out).mono ?_); rintro e w5 ⟨rfl, hb⟩; have n0_ := Aside0.mk (below_step (by repeat (first | (with_reducible first | exact HB.out | apply below_alloc | apply pw_below_drewN | apply below_drew1) | exact HB.out)) hb); clear HB; have HB := n0_; clear n0_; (try clear hb); (try clear hb2); (try clear hk); (try clear hi))))
      go_ret
      try subst hrt
      exact ⟨by first | rfl | (simp [errW_none, errW_some] <;> rfl) | (simp [*, errW_none, errW_some] <;> rfl), by repeat (first | (with_reducible first | exact HB.out | apply below_alloc | apply pw_below_drewN | apply below_drew1) | exact HB.out)⟩)
  · replace c3 := Bool.eq_false_iff.mpr c3
    subst c3
    have H1 : ((intrinsic_Pieces.f l0).bind fun t135 => ((intrinsic_Lines.f l0).bind fun t138 => (stickfullaw21_IntrinsicCuts.l0 k l0 t135 t138 0 0 0))) = some true := by rw [if_neg (show ¬ (false = true) by decide)] at H; exact H
    clear H
    have H := H1
    clear H1
    replace H := Option.bind_eq_some_iff.mp H
    obtain ⟨t135, A60, H⟩ := H
    replace H : ((intrinsic_Lines.f l0).bind fun t138 => (stickfullaw21_IntrinsicCuts.l0 k l0 t135 t138 0 0 0)) = some true := H
    have A6 := Aside0.mk A60
    clear A60
    replace H := Option.bind_eq_some_iff.mp H
    obtain ⟨t138, A70, H⟩ := H
    replace H : (stickfullaw21_IntrinsicCuts.l0 k l0 t135 t138 0 0 0) = some true := H
    have A7 := Aside0.mk A70
    clear A70
    have H' := Aside0.mk H
    clear H
    go_enter Try.func7, Try.ntmps7
    go_wp2_with (first | (go_at_call 24; (with_reducible refine (stickfullaw21_great.calls _ _ l0 false _ ?side1 ?side2 A2.out).mono ?_); (case side1 => repeat (first | exact HR0.out | (with_reducible refine Kd.C_alloc ?_ _) | (with_reducible refine Kd.C_drewN ?_ _) | (with_reducible refine Kd.C_drew ?_))); (case side2 => exact HC0.out); rintro e w' ⟨rfl, ⟨nd, rfl⟩⟩; (try first | exact ⟨rfl, _, World.drewN_drewN _ _ _⟩ | exact ⟨rfl, _, Eq.trans (World.drewN_drewN _ _ _) (congrArg (World.drewN _) (Nat.add_assoc _ _ _))⟩)) | (go_at_call 29; (with_reducible refine (intrinsic_Pieces.calls _ _ l0 t135 _ ?side1 ?side2 A6.out).mono ?_); (case side1 => repeat (first | exact HR0.out | (with_reducible refine Kd.C_alloc ?_ _) | (with_reducible refine Kd.C_drewN ?_ _) | (with_reducible refine Kd.C_drew ?_))); (case side2 => exact HC0.out); rintro e w8 ⟨v136, rfl, ho0, hb⟩; have n0_ := Aside0.mk (Kd.R_lower ho0 (below_size (by repeat (first | (with_reducible first | exact HB.out | apply below_alloc | apply pw_below_drewN | apply below_drew1) | exact HB.out)))); have n1_ := Aside0.mk (below_step (by repeat (first | (with_reducible first | exact HB.out | apply below_alloc | apply pw_below_drewN | apply below_drew1) | exact HB.out)) hb); clear HB; have HO137 := n0_; have HB := n1_; clear n0_ n1_; (try clear hb); (try clear hb2); (try clear hk); (try clear hi); (try clear ho0)) | (go_at_call 27; (with_reducible refine (intrinsic_Lines.calls _ _ l0 t138 _ ?side1 ?side2 A7.out).mono ?_); (case side1 => repeat (first | exact (Kd.C_below HR0.out HB.out) | (with_reducible refine Kd.C_alloc ?_ _) | (with_reducible refine Kd.C_drewN ?_ _) | (with_reducible refine Kd.C_drew ?_))); (case side2 => exact HC0.out); rintro e w9 ⟨v139, rfl, ho0, hb⟩; have n0_ := Aside0.mk (Kd.R_elder' (by (with_reducible repeat (first | apply Kd.R_alloc | apply Kd.R_drewN | apply Kd.R_drew)); exact HO137.out) (Kd.R_base ho0) hb); have n1_ := Aside0.mk (Kd.R_lower (Kd.R_new' ho0 (Kd.R_lt (by (with_reducible repeat (first | apply Kd.R_alloc | apply Kd.R_drewN | apply Kd.R_drew)); exact HO137.out))) (below_size (by repeat (first | (with_reducible first | exact HB.out | apply below_alloc | apply pw_below_drewN | apply below_drew1) | exact HB.out)))); have n2_ := Aside0.mk (below_step (by repeat (first | (with_reducible first | exact HB.out | apply below_alloc | apply pw_below_drewN | apply below_drew1) | exact HB.out)) hb); clear HO137; clear HB; have HO137 := n0_; have HO140 := n1_; have HB := n2_; clear n0_ n1_ n2_; (try clear hb); (try clear hb2); (try clear hk); (try clear hi); (try clear ho0)))
    repeat ((first | (refine stickfullaw21_IntrinsicCuts_quiet (by kernel_rfl) (by kernel_rfl) (by kernel_rfl) ?_; (try dsimp only [List.append]); (repeat (go_big_quiet_step (first | (go_at_call 24; (with_reducible refine (stickfullaw21_great.calls _ _ l0 false _ ?side1 ?side2 A2.out).mono ?_); (case side1 => repeat (first | exact HR0.out | (with_reducible refine Kd.C_alloc ?_ _) | (with_reducible refine Kd.C_drewN ?_ _) | (with_reducible refine Kd.C_drew ?_))); (case side2 => exact HC0.out); rintro e w' ⟨rfl, ⟨nd, rfl⟩⟩; (try first | exact ⟨rfl, _, World.drewN_drewN _ _ _⟩ | exact ⟨rfl, _, Eq.trans (World.drewN_drewN _ _ _) (congrArg (World.drewN _) (Nat.add_assoc _ _ _))⟩)) | (go_at_call 29; (with_reducible refine (intrinsic_Pieces.calls _ _ l0 t135 _ ?side1 ?side2 A6.out).mono ?_); (case side1 => repeat (first | exact HR0.out | (with_reducible refine Kd.C_alloc ?_ _) | (with_reducible refine Kd.C_drewN ?_ _) | (with_reducible refine Kd.C_drew ?_))); (case side2 => exact HC0.out); rintro e w8 ⟨v136, rfl, ho0, hb⟩; have n0_ := Aside0.mk (Kd.R_lower ho0 (below_size (by repeat (first | (with_reducible first | exact HB.out | apply below_alloc | apply pw_below_drewN | apply below_drew1) | exact HB.out)))); have n1_ := Aside0.mk (below_step (by repeat (first | (with_reducible first | exact HB.out | apply below_alloc | apply pw_below_drewN | apply below_drew1) | exact HB.out)) hb); clear HB; have HO137 := n0_; have HB := n1_; clear n0_ n1_; (try clear hb); (try clear hb2); (try clear hk); (try clear hi); (try clear ho0)) | (go_at_call 27; (with_reducible refine (intrinsic_Lines.calls _ _ l0 t138 _ ?side1 ?side2 A7.out).mono ?_); (case side1 => repeat (first | exact (Kd.C_below HR0.out HB.out) | (with_reducible refine Kd.C_alloc ?_ _) | (with_reducible refine Kd.C_drewN ?_ _) | (with_reducible refine Kd.C_drew ?_))); (case side2 => exact HC0.out); rintro e w9 ⟨v139, rfl, ho0, hb⟩; have n0_ := Aside0.mk (Kd.R_elder' (by (with_reducible repeat (first | apply Kd.R_alloc | apply Kd.R_drewN | apply Kd.R_drew)); exact HO137.out) (Kd.R_base ho0) hb); have n1_ := Aside0.mk (Kd.R_lower (Kd.R_new' ho0 (Kd.R_lt (by (with_reducible repeat (first | apply Kd.R_alloc | apply Kd.R_drewN | apply Kd.R_drew)); exact HO137.out))) (below_size (by repeat (first | (with_reducible first | exact HB.out | apply below_alloc | apply pw_below_drewN | apply below_drew1) | exact HB.out)))); have n2_ := Aside0.mk (below_step (by repeat (first | (with_reducible first | exact HB.out | apply below_alloc | apply pw_below_drewN | apply below_drew1) | exact HB.out)) hb); clear HO137; clear HB; have HO137 := n0_; have HO140 := n1_; have HB := n2_; clear n0_ n1_ n2_; (try clear hb); (try clear hb2); (try clear hk); (try clear hi); (try clear ho0))))); refine wpQuiet_nil ?_; intro _ hw'; obtain ⟨nq, hw''⟩ := hw'; subst hw'') | (refine stickfullaw21_IntrinsicCuts_quiet (by kernel_rfl) (by kernel_rfl) (by kernel_rfl) ?_; (try dsimp only [List.append]); (repeat (quiet_step (first | (go_at_call 24; (with_reducible refine (stickfullaw21_great.calls _ _ l0 false _ ?side1 ?side2 A2.out).mono ?_); (case side1 => repeat (first | exact HR0.out | (with_reducible refine Kd.C_alloc ?_ _) | (with_reducible refine Kd.C_drewN ?_ _) | (with_reducible refine Kd.C_drew ?_))); (case side2 => exact HC0.out); rintro e w' ⟨rfl, ⟨nd, rfl⟩⟩; (try first | exact ⟨rfl, _, World.drewN_drewN _ _ _⟩ | exact ⟨rfl, _, Eq.trans (World.drewN_drewN _ _ _) (congrArg (World.drewN _) (Nat.add_assoc _ _ _))⟩)) | (go_at_call 29; (with_reducible refine (intrinsic_Pieces.calls _ _ l0 t135 _ ?side1 ?side2 A6.out).mono ?_); (case side1 => repeat (first | exact HR0.out | (with_reducible refine Kd.C_alloc ?_ _) | (with_reducible refine Kd.C_drewN ?_ _) | (with_reducible refine Kd.C_drew ?_))); (case side2 => exact HC0.out); rintro e w8 ⟨v136, rfl, ho0, hb⟩; have n0_ := Aside0.mk (Kd.R_lower ho0 (below_size (by repeat (first | (with_reducible first | exact HB.out | apply below_alloc | apply pw_below_drewN | apply below_drew1) | exact HB.out)))); have n1_ := Aside0.mk (below_step (by repeat (first | (with_reducible first | exact HB.out | apply below_alloc | apply pw_below_drewN | apply below_drew1) | exact HB.out)) hb); clear HB; have HO137 := n0_; have HB := n1_; clear n0_ n1_; (try clear hb); (try clear hb2); (try clear hk); (try clear hi); (try clear ho0)) | (go_at_call 27; (with_reducible refine (intrinsic_Lines.calls _ _ l0 t138 _ ?side1 ?side2 A7.out).mono ?_); (case side1 => repeat (first | exact (Kd.C_below HR0.out HB.out) | (with_reducible refine Kd.C_alloc ?_ _) | (with_reducible refine Kd.C_drewN ?_ _) | (with_reducible refine Kd.C_drew ?_))); (case side2 => exact HC0.out); rintro e w9 ⟨v139, rfl, ho0, hb⟩; have n0_ := Aside0.mk (Kd.R_elder' (by (with_reducible repeat (first | apply Kd.R_alloc | apply Kd.R_drewN | apply Kd.R_drew)); exact HO137.out) (Kd.R_base ho0) hb); have n1_ := Aside0.mk (Kd.R_lower (Kd.R_new' ho0 (Kd.R_lt (by (with_reducible repeat (first | apply Kd.R_alloc | apply Kd.R_drewN | apply Kd.R_drew)); exact HO137.out))) (below_size (by repeat (first | (with_reducible first | exact HB.out | apply below_alloc | apply pw_below_drewN | apply below_drew1) | exact HB.out)))); have n2_ := Aside0.mk (below_step (by repeat (first | (with_reducible first | exact HB.out | apply below_alloc | apply pw_below_drewN | apply below_drew1) | exact HB.out)) hb); clear HO137; clear HB; have HO137 := n0_; have HO140 := n1_; have HB := n2_; clear n0_ n1_ n2_; (try clear hb); (try clear hb2); (try clear hk); (try clear hi); (try clear ho0))))); refine wpQuiet_nil ?_; intro _ hw'; obtain ⟨nq, hw''⟩ := hw'; subst hw'')); try go_wp2_with (first | (go_at_call 24; (with_reducible refine (stickfullaw21_great.calls _ _ l0 false _ ?side1 ?side2 A2.out).mono ?_); (case side1 => repeat (first | exact HR0.out | (with_reducible refine Kd.C_alloc ?_ _) | (with_reducible refine Kd.C_drewN ?_ _) | (with_reducible refine Kd.C_drew ?_))); (case side2 => exact HC0.out); rintro e w' ⟨rfl, ⟨nd, rfl⟩⟩; (try first | exact ⟨rfl, _, World.drewN_drewN _ _ _⟩ | exact ⟨rfl, _, Eq.trans (World.drewN_drewN _ _ _) (congrArg (World.drewN _) (Nat.add_assoc _ _ _))⟩)) | (go_at_call 29; (with_reducible refine (intrinsic_Pieces.calls _ _ l0 t135 _ ?side1 ?side2 A6.out).mono ?_); (case side1 => repeat (first | exact HR0.out | (with_reducible refine Kd.C_alloc ?_ _) | (with_reducible refine Kd.C_drewN ?_ _) | (with_reducible refine Kd.C_drew ?_))); (case side2 => exact HC0.out); rintro e w8 ⟨v136, rfl, ho0, hb⟩; have n0_ := Aside0.mk (Kd.R_lower ho0 (below_size (by repeat (first | (with_reducible first | exact HB.out | apply below_alloc | apply pw_below_drewN | apply below_drew1) | exact HB.out)))); have n1_ := Aside0.mk (below_step (by repeat (first | (with_reducible first | exact HB.out | apply below_alloc | apply pw_below_drewN | apply below_drew1) | exact HB.out)) hb); clear HB; have HO137 := n0_; have HB := n1_; clear n0_ n1_; (try clear hb); (try clear hb2); (try clear hk); (try clear hi); (try clear ho0)) | (go_at_call 27; (with_reducible refine (intrinsic_Lines.calls _ _ l0 t138 _ ?side1 ?side2 A7.out).mono ?_); (case side1 => repeat (first | exact (Kd.C_below HR0.out HB.out) | (with_reducible refine Kd.C_alloc ?_ _) | (with_reducible refine Kd.C_drewN ?_ _) | (with_reducible refine Kd.C_drew ?_))); (case side2 => exact HC0.out); rintro e w9 ⟨v139, rfl, ho0, hb⟩; have n0_ := Aside0.mk (Kd.R_elder' (by (with_reducible repeat (first | apply Kd.R_alloc | apply Kd.R_drewN | apply Kd.R_drew)); exact HO137.out) (Kd.R_base ho0) hb); have n1_ := Aside0.mk (Kd.R_lower (Kd.R_new' ho0 (Kd.R_lt (by (with_reducible repeat (first | apply Kd.R_alloc | apply Kd.R_drewN | apply Kd.R_drew)); exact HO137.out))) (below_size (by repeat (first | (with_reducible first | exact HB.out | apply below_alloc | apply pw_below_drewN | apply below_drew1) | exact HB.out)))); have n2_ := Aside0.mk (below_step (by repeat (first | (with_reducible first | exact HB.out | apply below_alloc | apply pw_below_drewN | apply below_drew1) | exact HB.out)) hb); clear HO137; clear HB; have HO137 := n0_; have HO140 := n1_; have HB := n2_; clear n0_ n1_ n2_; (try clear hb); (try clear hb2); (try clear hk); (try clear hi); (try clear ho0))))
    go_loopg [5, 6, 7] k (fun kq v5 v6 v7 w' => ∃ (x5_1 : Int) (x6_1 : Int) (x7_1 : Int), v5 = .int .i64 x5_1 ∧ v6 = .int .i64 x6_1 ∧ v7 = .int .i64 x7_1 ∧ Aside0 (stickfullaw21_IntrinsicCuts.l0 kq l0 t135 t138 x5_1 x6_1 x7_1 = some true) ∧ Aside0 (kq ≤ k) ∧ Aside0 (Kd.R k43 43 w' w.heap.size (fun k_ => some k_ ≠ (v139 : Value).ownBlock) v136 t135) ∧ Aside0 (Kd.R k43 43 w' w.heap.size (fun k_ => some k_ ≠ (v136 : Value).ownBlock) v139 t138) ∧ Aside0 (Below w.heap.size w w'))
    case atStart => exact ⟨(0), (0), (0), (by first | rfl | (simp; done) | (simp [*]; done)), (by first | rfl | (simp; done) | (simp [*]; done)), (by first | rfl | (simp; done) | (simp [*]; done)), H', ⟨Nat.le_refl _⟩, ⟨by (with_reducible repeat (first | apply Kd.R_alloc | apply Kd.R_drewN | apply Kd.R_drew)); exact Kd.R_mono HO137.out (fun _ hk => hk.2)⟩, ⟨by (with_reducible repeat (first | apply Kd.R_alloc | apply Kd.R_drewN | apply Kd.R_drew)); exact Kd.R_mono HO140.out (fun _ hk => hk.2)⟩, ⟨by repeat (first | (with_reducible first | exact HB.out | apply below_alloc | apply pw_below_drewN | apply below_drew1) | exact HB.out)⟩⟩
    case round =>
      clear H'
      try clear p2
      try clear c3
      try clear c7
      obtain ⟨x5_1, x6_1, x7_1, rfl, rfl, rfl, HA, HK1, HO_3, HO_4, HB⟩ := hrel
      cases gk with
      | zero => exact absurd HA.out (by simp [stickfullaw21_IntrinsicCuts.l0])
      | succ k1 =>
        have H := HA.out
        clear HA
        simp only [stickfullaw21_IntrinsicCuts.l0] at H
        by_cases c10 : x7_1 < (t135.length : Int)
        · rw [if_pos c10] at H
          have c10b0 : decide (x7_1 < (t135.length : Int)) = true := decide_eq_true c10
          clear c10
          have HC11 := Aside0.mk H
          clear H
          obtain ⟨Ao12, co12, eo12⟩ := Kd.R_slice HO_3.out
          subst eo12
          go_upto_region 8 with (fail)
          repeat ((first | (refine stickfullaw21_IntrinsicCuts_quiet (by kernel_rfl) (by kernel_rfl) (by kernel_rfl) ?_; (try dsimp only [List.append]); (repeat (go_big_quiet_step (fail))); refine wpQuiet_nil ?_; intro _ hw'; obtain ⟨nq, hw''⟩ := hw'; subst hw'') | (refine stickfullaw21_IntrinsicCuts_quiet (by kernel_rfl) (by kernel_rfl) (by kernel_rfl) ?_; (try dsimp only [List.append]); (repeat (quiet_step (fail))); refine wpQuiet_nil ?_; intro _ hw'; obtain ⟨nq, hw''⟩ := hw'; subst hw'')); go_upto_region 8 with (fail))
          go_cut [53] (fun v53 wc => ∃ (kq : Nat) (x53_10 : Bool), v53 = .bool x53_10 ∧ Aside0 (stickfullaw21_IntrinsicCuts.j1 kq l0 t135 t138 x5_1 x6_1 x7_1 x53_10 = some true) ∧ Aside0 (kq ≤ k1) ∧ Aside0 (Kd.R k43 43 wc w.heap.size (fun k_ => some k_ ≠ (v139 : Value).ownBlock) (.slice Ao12 t135.length co12) t135) ∧ Aside0 (Kd.R k43 43 wc w.heap.size (fun k_ => some k_ ≠ ((.slice Ao12 t135.length co12) : Value).ownBlock) v139 t138) ∧ Aside0 (Below w.heap.size w wc))
          case first =>
            have H := HC11.out
            clear HC11
            by_cases c13 : 0 ≤ x7_1
            · rw [if_pos c13] at H
              have c13b0 : decide (0 ≤ x7_1) = true := decide_eq_true c13
              clear c13
              (first | rw [c13b0] | (simp only [i64_w, i32_w]; rw [c13b0]) | skip)
              by_cases c14 : ((rd_T43 t135 x7_1).f0) = x5_1
              · rw [if_pos c14] at H
                have c14b0 : (((rd_T43 t135 x7_1).f0) == x5_1) = true := beq_iff_eq.mpr c14
                have c14b1 : (((rd_T43 t135 x7_1).f0) != x5_1) = false := bne_eq_false_iff_eq.mpr c14
                clear c14
                by_cases c15 : ((rd_T43 t135 x7_1).f1) ≤ x5_1
                · rw [if_pos c15] at H
                  have c15b0 : decide (((rd_T43 t135 x7_1).f1) ≤ x5_1) = true := decide_eq_true c15
                  clear c15
                  first | exact (stickfullaw21_IntrinsicCuts.j1_no _ _ _ _ _ _ _ H).elim | exact (stickfullaw21_IntrinsicCuts.j2_no _ _ _ _ _ _ H).elim
                · rw [if_neg c15] at H
                  have c15b0 : decide (((rd_T43 t135 x7_1).f1) ≤ x5_1) = false := decide_eq_false c15
                  clear c15
                  by_cases c16 : ((rd_T43 t135 x7_1).f1) > (l0.length : Int)
                  · rw [if_pos c16] at H
                    have c16b0 : decide ((l0.length : Int) < ((rd_T43 t135 x7_1).f1)) = true := decide_eq_true c16
                    clear c16
                    first | exact (stickfullaw21_IntrinsicCuts.j1_no _ _ _ _ _ _ _ H).elim | exact (stickfullaw21_IntrinsicCuts.j2_no _ _ _ _ _ _ H).elim
                  · rw [if_neg c16] at H
                    have c16b0 : decide ((l0.length : Int) < ((rd_T43 t135 x7_1).f1)) = false := decide_eq_false c16
                    clear c16
                    have H' := Aside0.mk H
                    clear H
                    have p141 : 0 ≤ (x7_1 : Int) := of_decide_eq_true (by first | (with_reducible assumption) | assumption)
                    have q141 : x7_1 < (t135.length : Int) := of_decide_eq_true (by first | (with_reducible assumption) | assumption)
                    obtain ⟨ad141, e141, hx141_0, hx141_1⟩ := at_T43 (Kd.R_reads' HO_3.out).2.2 x7_1 p141 q141
                    cases e141
                    replace p141 := eq_true p141
                    replace q141 := eq_true q141
                    have p142 : 0 ≤ (x7_1 : Int) := of_decide_eq_true (by first | (with_reducible assumption) | assumption)
                    have q142 : x7_1 < (t135.length : Int) := of_decide_eq_true (by first | (with_reducible assumption) | assumption)
                    obtain ⟨ad142, e142, hx142_0, hx142_1⟩ := at_T43 (Kd.R_reads' HO_3.out).2.2 x7_1 p142 q142
                    obtain rfl : ad141 = ad142 := (by injection e142)
                    replace p142 := eq_true p142
                    replace q142 := eq_true q142
                    have p143 : 0 ≤ (x7_1 : Int) := of_decide_eq_true (by first | (with_reducible assumption) | assumption)
                    have q143 : x7_1 < (t135.length : Int) := of_decide_eq_true (by first | (with_reducible assumption) | assumption)
                    obtain ⟨ad143, e143, hx143_0, hx143_1⟩ := at_T43 (Kd.R_reads' HO_3.out).2.2 x7_1 p143 q143
                    obtain rfl : ad141 = ad143 := (by injection e143)
                    replace p143 := eq_true p143
                    replace q143 := eq_true q143
                    obtain ⟨Ao17, co17, eo17⟩ := Kd.R_slice HO_4.out
                    subst eo17
                    go_wp2
                    repeat ((first | (refine stickfullaw21_IntrinsicCuts_quiet (by kernel_rfl) (by kernel_rfl) (by kernel_rfl) ?_; (try dsimp only [List.append]); (repeat (go_big_quiet_step (fail))); refine wpQuiet_nil ?_; intro _ hw'; obtain ⟨nq, hw''⟩ := hw'; subst hw'') | (refine stickfullaw21_IntrinsicCuts_quiet (by kernel_rfl) (by kernel_rfl) (by kernel_rfl) ?_; (try dsimp only [List.append]); (repeat (quiet_step (fail))); refine wpQuiet_nil ?_; intro _ hw'; obtain ⟨nq, hw''⟩ := hw'; subst hw'')); try go_wp2)
                    go_meet
                    case rel => exact ⟨_, (decide (x6_1 ≥ (t138.length : Int))), (by first | rfl | (simp; done) | (simp [*]; done)), H', ⟨by have := HK1.out; first | omega | exact Nat.le_refl _⟩, ⟨by (with_reducible repeat (first | apply Kd.R_alloc | apply Kd.R_drewN | apply Kd.R_drew)); exact HO_3.out⟩, ⟨by (with_reducible repeat (first | apply Kd.R_alloc | apply Kd.R_drewN | apply Kd.R_drew)); exact HO_4.out⟩, ⟨by repeat (first | (with_reducible first | exact HB.out | apply below_alloc | apply pw_below_drewN | apply below_drew1) | exact HB.out)⟩⟩
              · rw [if_neg c14] at H
                have c14b0 : (((rd_T43 t135 x7_1).f0) == x5_1) = false := beq_eq_false_iff_ne.mpr c14
                have c14b1 : (((rd_T43 t135 x7_1).f0) != x5_1) = true := bne_iff_ne.mpr c14
                first | exact (stickfullaw21_IntrinsicCuts.j1_no _ _ _ _ _ _ _ H).elim | exact (stickfullaw21_IntrinsicCuts.j2_no _ _ _ _ _ _ H).elim
            · rw [if_neg c13] at H
              exact absurd H (by simp)
          case rest =>
            clear HC11
            try clear c1
            try clear p1
            try clear q1
            try clear hx1
            try clear p2
            try clear c3
            try clear c7
            try clear c10
            try clear c10b0
            try clear c13
            try clear c13b0
            try clear c14
            try clear c14b0
            try clear c14b1
            try clear p14
            try clear q14
            try clear hx14
            try clear c15
            try clear c15b0
            try clear c16
            try clear c16b0
            try clear hx141_0
            try clear hx141_1
            try clear hx142_0
            try clear hx142_1
            try clear hx143_0
            try clear hx143_1
            try clear p141
            try clear p142
            try clear p143
            try clear p2
            try clear q141
            try clear q142
            try clear q143
            obtain ⟨kq, x53_10, rfl, HA, HJ10, HO_3, HO_4, HB⟩ := hcut
            cases kq with
            | zero => exact absurd HA.out (by simp [stickfullaw21_IntrinsicCuts.j1])
            | succ kj10 =>
              have H := HA.out
              clear HA
              simp only [stickfullaw21_IntrinsicCuts.j1] at H
              by_cases c18 : x53_10 = true
              · subst c18
                have H1 : (some false) = some true := by rw [if_pos rfl] at H; exact H
                clear H
                have H := H1
                clear H1
                have hrt := Option.some.inj H
                first | exact absurd hrt (by decide) | skip
                all_goals (
                  go_wp2
                  repeat ((first | (refine stickfullaw21_IntrinsicCuts_quiet (by kernel_rfl) (by kernel_rfl) (by kernel_rfl) ?_; (try dsimp only [List.append]); (repeat (go_big_quiet_step (fail))); refine wpQuiet_nil ?_; intro _ hw'; obtain ⟨nq, hw''⟩ := hw'; subst hw'') | (refine stickfullaw21_IntrinsicCuts_quiet (by kernel_rfl) (by kernel_rfl) (by kernel_rfl) ?_; (try dsimp only [List.append]); (repeat (quiet_step (fail))); refine wpQuiet_nil ?_; intro _ hw'; obtain ⟨nq, hw''⟩ := hw'; subst hw'')); try go_wp2)
                  go_ret
                  try subst hrt
                  exact ⟨by first | rfl | (simp [errW_none, errW_some] <;> rfl) | (simp [*, errW_none, errW_some] <;> rfl), by repeat (first | (with_reducible first | exact HB.out | apply below_alloc | apply pw_below_drewN | apply below_drew1) | exact HB.out)⟩)
              · replace c18 := Bool.eq_false_iff.mpr c18
                subst c18
                have H1 : (if x5_1 > 0 then (if 0 ≤ x5_1 then (if x5_1 < (l0.length : Int) then (if ((rd_T25 l0 x5_1).f4 = true) then (if 0 ≤ x6_1 then (if x6_1 < (t138.length : Int) then (if 0 ≤ x7_1 then (if x7_1 < (t135.length : Int) then (if ((rd_T43 t138 x6_1).f1) < ((rd_T43 t135 x7_1).f1) then (stickfullaw21_IntrinsicCuts.j2 kj10 l0 t135 t138 x6_1 x7_1 true) else (if ((rd_T43 t135 x7_1).f0) = ((rd_T43 t138 x6_1).f0) then (if x6_1 > 0 then (if 0 ≤ (wrap64 (x6_1 - 1)) then (if (wrap64 (x6_1 - 1)) < (t138.length : Int) then (stickfullaw21_IntrinsicCuts.j2 kj10 l0 t135 t138 x6_1 x7_1 (((rd_T43 t138 x6_1).f0) != ((rd_T43 t138 (wrap64 (x6_1 - 1))).f1))) else (none)) else (none)) else (stickfullaw21_IntrinsicCuts.j2 kj10 l0 t135 t138 x6_1 x7_1 false)) else (stickfullaw21_IntrinsicCuts.j2 kj10 l0 t135 t138 x6_1 x7_1 false))) else (none)) else (none)) else (none)) else (none)) else (if ((rd_T25 l0 x5_1).f5 = true) then (if 0 ≤ x6_1 then (if x6_1 < (t138.length : Int) then (if 0 ≤ x7_1 then (if x7_1 < (t135.length : Int) then (if ((rd_T43 t138 x6_1).f1) < ((rd_T43 t135 x7_1).f1) then (stickfullaw21_IntrinsicCuts.j2 kj10 l0 t135 t138 x6_1 x7_1 true) else (if ((rd_T43 t135 x7_1).f0) = ((rd_T43 t138 x6_1).f0) then (if x6_1 > 0 then (if 0 ≤ (wrap64 (x6_1 - 1)) then (if (wrap64 (x6_1 - 1)) < (t138.length : Int) then (stickfullaw21_IntrinsicCuts.j2 kj10 l0 t135 t138 x6_1 x7_1 (((rd_T43 t138 x6_1).f0) != ((rd_T43 t138 (wrap64 (x6_1 - 1))).f1))) else (none)) else (none)) else (stickfullaw21_IntrinsicCuts.j2 kj10 l0 t135 t138 x6_1 x7_1 false)) else (stickfullaw21_IntrinsicCuts.j2 kj10 l0 t135 t138 x6_1 x7_1 false))) else (none)) else (none)) else (none)) else (none)) else (if 0 ≤ (wrap64 (x5_1 - 1)) then (if (wrap64 (x5_1 - 1)) < (l0.length : Int) then (if ((rd_T25 l0 (wrap64 (x5_1 - 1))).f0) = 5 then (if 0 ≤ x6_1 then (if x6_1 < (t138.length : Int) then (if 0 ≤ x7_1 then (if x7_1 < (t135.length : Int) then (if ((rd_T43 t138 x6_1).f1) < ((rd_T43 t135 x7_1).f1) then (stickfullaw21_IntrinsicCuts.j2 kj10 l0 t135 t138 x6_1 x7_1 true) else (if ((rd_T43 t135 x7_1).f0) = ((rd_T43 t138 x6_1).f0) then (if x6_1 > 0 then (if 0 ≤ (wrap64 (x6_1 - 1)) then (if (wrap64 (x6_1 - 1)) < (t138.length : Int) then (stickfullaw21_IntrinsicCuts.j2 kj10 l0 t135 t138 x6_1 x7_1 (((rd_T43 t138 x6_1).f0) != ((rd_T43 t138 (wrap64 (x6_1 - 1))).f1))) else (none)) else (none)) else (stickfullaw21_IntrinsicCuts.j2 kj10 l0 t135 t138 x6_1 x7_1 false)) else (stickfullaw21_IntrinsicCuts.j2 kj10 l0 t135 t138 x6_1 x7_1 false))) else (none)) else (none)) else (none)) else (none)) else (stickfullaw21_IntrinsicCuts.j2 kj10 l0 t135 t138 x6_1 x7_1 true)) else (none)) else (none)))) else (none)) else (none)) else (if 0 ≤ x6_1 then (if x6_1 < (t138.length : Int) then (if 0 ≤ x7_1 then (if x7_1 < (t135.length : Int) then (if ((rd_T43 t138 x6_1).f1) < ((rd_T43 t135 x7_1).f1) then (stickfullaw21_IntrinsicCuts.j2 kj10 l0 t135 t138 x6_1 x7_1 true) else (if ((rd_T43 t135 x7_1).f0) = ((rd_T43 t138 x6_1).f0) then (if x6_1 > 0 then (if 0 ≤ (wrap64 (x6_1 - 1)) then (if (wrap64 (x6_1 - 1)) < (t138.length : Int) then (stickfullaw21_IntrinsicCuts.j2 kj10 l0 t135 t138 x6_1 x7_1 (((rd_T43 t138 x6_1).f0) != ((rd_T43 t138 (wrap64 (x6_1 - 1))).f1))) else (none)) else (none)) else (stickfullaw21_IntrinsicCuts.j2 kj10 l0 t135 t138 x6_1 x7_1 false)) else (stickfullaw21_IntrinsicCuts.j2 kj10 l0 t135 t138 x6_1 x7_1 false))) else (none)) else (none)) else (none)) else (none))) = some true := by rw [if_neg (show ¬ (false = true) by decide)] at H; exact H
                clear H
                have H := H1
                clear H1
                have HC19 := Aside0.mk H
                clear H
                go_upto_region 10 with (fail)
                repeat ((first | (refine stickfullaw21_IntrinsicCuts_quiet (by kernel_rfl) (by kernel_rfl) (by kernel_rfl) ?_; (try dsimp only [List.append]); (repeat (go_big_quiet_step (fail))); refine wpQuiet_nil ?_; intro _ hw'; obtain ⟨nq, hw''⟩ := hw'; subst hw'') | (refine stickfullaw21_IntrinsicCuts_quiet (by kernel_rfl) (by kernel_rfl) (by kernel_rfl) ?_; (try dsimp only [List.append]); (repeat (quiet_step (fail))); refine wpQuiet_nil ?_; intro _ hw'; obtain ⟨nq, hw''⟩ := hw'; subst hw'')); go_upto_region 10 with (fail))
                go_cut [124] (fun v124 wc => ∃ (kq : Nat) (x124_18 : Bool), v124 = .bool x124_18 ∧ Aside0 (stickfullaw21_IntrinsicCuts.j2 kq l0 t135 t138 x6_1 x7_1 x124_18 = some true) ∧ Aside0 (kq ≤ kj10) ∧ Aside0 (Kd.R k43 43 wc w.heap.size (fun k_ => some k_ ≠ (v139 : Value).ownBlock) (.slice Ao12 t135.length co12) t135) ∧ Aside0 (Kd.R k43 43 wc w.heap.size (fun k_ => some k_ ≠ ((.slice Ao12 t135.length co12) : Value).ownBlock) v139 t138) ∧ Aside0 (Below w.heap.size w wc))
                case first =>
                  have H := HC19.out
                  clear HC19
                  by_cases c20 : x5_1 > 0
                  · rw [if_pos c20] at H
                    have c20b0 : decide (0 < x5_1) = true := decide_eq_true c20
                    clear c20
                    (first | rw [c20b0] | (simp only [i64_w, i32_w]; rw [c20b0]) | skip)
                    by_cases c21 : 0 ≤ x5_1
                    · rw [if_pos c21] at H
                      have c21b0 : decide (0 ≤ x5_1) = true := decide_eq_true c21
                      clear c21
                      by_cases c22 : x5_1 < (l0.length : Int)
                      · rw [if_pos c22] at H
                        have c22b0 : decide (x5_1 < (l0.length : Int)) = true := decide_eq_true c22
                        clear c22
                        obtain ⟨bq23, hbq23⟩ : ∃ b_ : Bool, b_ = ((rd_T25 l0 x5_1).f4) := ⟨_, rfl⟩
                        replace H : (if (bq23 = true) then (if 0 ≤ x6_1 then (if x6_1 < (t138.length : Int) then (if 0 ≤ x7_1 then (if x7_1 < (t135.length : Int) then (if ((rd_T43 t138 x6_1).f1) < ((rd_T43 t135 x7_1).f1) then (stickfullaw21_IntrinsicCuts.j2 kj10 l0 t135 t138 x6_1 x7_1 true) else (if ((rd_T43 t135 x7_1).f0) = ((rd_T43 t138 x6_1).f0) then (if x6_1 > 0 then (if 0 ≤ (wrap64 (x6_1 - 1)) then (if (wrap64 (x6_1 - 1)) < (t138.length : Int) then (stickfullaw21_IntrinsicCuts.j2 kj10 l0 t135 t138 x6_1 x7_1 (((rd_T43 t138 x6_1).f0) != ((rd_T43 t138 (wrap64 (x6_1 - 1))).f1))) else (none)) else (none)) else (stickfullaw21_IntrinsicCuts.j2 kj10 l0 t135 t138 x6_1 x7_1 false)) else (stickfullaw21_IntrinsicCuts.j2 kj10 l0 t135 t138 x6_1 x7_1 false))) else (none)) else (none)) else (none)) else (none)) else (if ((rd_T25 l0 x5_1).f5 = true) then (if 0 ≤ x6_1 then (if x6_1 < (t138.length : Int) then (if 0 ≤ x7_1 then (if x7_1 < (t135.length : Int) then (if ((rd_T43 t138 x6_1).f1) < ((rd_T43 t135 x7_1).f1) then (stickfullaw21_IntrinsicCuts.j2 kj10 l0 t135 t138 x6_1 x7_1 true) else (if ((rd_T43 t135 x7_1).f0) = ((rd_T43 t138 x6_1).f0) then (if x6_1 > 0 then (if 0 ≤ (wrap64 (x6_1 - 1)) then (if (wrap64 (x6_1 - 1)) < (t138.length : Int) then (stickfullaw21_IntrinsicCuts.j2 kj10 l0 t135 t138 x6_1 x7_1 (((rd_T43 t138 x6_1).f0) != ((rd_T43 t138 (wrap64 (x6_1 - 1))).f1))) else (none)) else (none)) else (stickfullaw21_IntrinsicCuts.j2 kj10 l0 t135 t138 x6_1 x7_1 false)) else (stickfullaw21_IntrinsicCuts.j2 kj10 l0 t135 t138 x6_1 x7_1 false))) else (none)) else (none)) else (none)) else (none)) else (if 0 ≤ (wrap64 (x5_1 - 1)) then (if (wrap64 (x5_1 - 1)) < (l0.length : Int) then (if ((rd_T25 l0 (wrap64 (x5_1 - 1))).f0) = 5 then (if 0 ≤ x6_1 then (if x6_1 < (t138.length : Int) then (if 0 ≤ x7_1 then (if x7_1 < (t135.length : Int) then (if ((rd_T43 t138 x6_1).f1) < ((rd_T43 t135 x7_1).f1) then (stickfullaw21_IntrinsicCuts.j2 kj10 l0 t135 t138 x6_1 x7_1 true) else (if ((rd_T43 t135 x7_1).f0) = ((rd_T43 t138 x6_1).f0) then (if x6_1 > 0 then (if 0 ≤ (wrap64 (x6_1 - 1)) then (if (wrap64 (x6_1 - 1)) < (t138.length : Int) then (stickfullaw21_IntrinsicCuts.j2 kj10 l0 t135 t138 x6_1 x7_1 (((rd_T43 t138 x6_1).f0) != ((rd_T43 t138 (wrap64 (x6_1 - 1))).f1))) else (none)) else (none)) else (stickfullaw21_IntrinsicCuts.j2 kj10 l0 t135 t138 x6_1 x7_1 false)) else (stickfullaw21_IntrinsicCuts.j2 kj10 l0 t135 t138 x6_1 x7_1 false))) else (none)) else (none)) else (none)) else (none)) else (stickfullaw21_IntrinsicCuts.j2 kj10 l0 t135 t138 x6_1 x7_1 true)) else (none)) else (none)))) = some true := by rw [← hbq23] at H; exact H
                        have Nbq23 := Aside0.mk hbq23
                        clear hbq23
                        by_cases c24 : (bq23 = true)
                        · subst c24
                          have H1 : (if 0 ≤ x6_1 then (if x6_1 < (t138.length : Int) then (if 0 ≤ x7_1 then (if x7_1 < (t135.length : Int) then (if ((rd_T43 t138 x6_1).f1) < ((rd_T43 t135 x7_1).f1) then (stickfullaw21_IntrinsicCuts.j2 kj10 l0 t135 t138 x6_1 x7_1 true) else (if ((rd_T43 t135 x7_1).f0) = ((rd_T43 t138 x6_1).f0) then (if x6_1 > 0 then (if 0 ≤ (wrap64 (x6_1 - 1)) then (if (wrap64 (x6_1 - 1)) < (t138.length : Int) then (stickfullaw21_IntrinsicCuts.j2 kj10 l0 t135 t138 x6_1 x7_1 (((rd_T43 t138 x6_1).f0) != ((rd_T43 t138 (wrap64 (x6_1 - 1))).f1))) else (none)) else (none)) else (stickfullaw21_IntrinsicCuts.j2 kj10 l0 t135 t138 x6_1 x7_1 false)) else (stickfullaw21_IntrinsicCuts.j2 kj10 l0 t135 t138 x6_1 x7_1 false))) else (none)) else (none)) else (none)) else (none)) = some true := by rw [if_pos rfl] at H; exact H
                          clear H
                          have H := H1
                          clear H1
                          by_cases c25 : 0 ≤ x6_1
                          · rw [if_pos c25] at H
                            have c25b0 : decide (0 ≤ x6_1) = true := decide_eq_true c25
                            clear c25
                            by_cases c26 : x6_1 < (t138.length : Int)
                            · rw [if_pos c26] at H
                              have c26b0 : decide (x6_1 < (t138.length : Int)) = true := decide_eq_true c26
                              clear c26
                              by_cases c27 : 0 ≤ x7_1
                              · rw [if_pos c27] at H
                                have c27b0 : decide (0 ≤ x7_1) = true := decide_eq_true c27
                                clear c27
                                by_cases c28 : x7_1 < (t135.length : Int)
                                · rw [if_pos c28] at H
                                  have c28b0 : decide (x7_1 < (t135.length : Int)) = true := decide_eq_true c28
                                  clear c28
                                  by_cases c29 : ((rd_T43 t138 x6_1).f1) < ((rd_T43 t135 x7_1).f1)
                                  · rw [if_pos c29] at H
                                    have c29b0 : decide (((rd_T43 t138 x6_1).f1) < ((rd_T43 t135 x7_1).f1)) = true := decide_eq_true c29
                                    clear c29
                                    first | exact (stickfullaw21_IntrinsicCuts.j1_no _ _ _ _ _ _ _ H).elim | exact (stickfullaw21_IntrinsicCuts.j2_no _ _ _ _ _ _ H).elim
                                  · rw [if_neg c29] at H
                                    have c29b0 : decide (((rd_T43 t138 x6_1).f1) < ((rd_T43 t135 x7_1).f1)) = false := decide_eq_false c29
                                    clear c29
                                    by_cases c31 : ((rd_T43 t135 x7_1).f0) = ((rd_T43 t138 x6_1).f0)
                                    · rw [if_pos c31] at H
                                      have c31b0 : (((rd_T43 t135 x7_1).f0) == ((rd_T43 t138 x6_1).f0)) = true := beq_iff_eq.mpr c31
                                      have c31b1 : (((rd_T43 t135 x7_1).f0) != ((rd_T43 t138 x6_1).f0)) = false := bne_eq_false_iff_eq.mpr c31
                                      clear c31
                                      by_cases c32 : x6_1 > 0
                                      · rw [if_pos c32] at H
                                        have c32b0 : decide (0 < x6_1) = true := decide_eq_true c32
                                        clear c32
                                        obtain ⟨ji33, hji33⟩ : ∃ j_ : Int, (wrap64 (x6_1 - 1)) = j_ := ⟨_, rfl⟩
                                        replace H : (if 0 ≤ (ji33) then (if (ji33) < (t138.length : Int) then (stickfullaw21_IntrinsicCuts.j2 kj10 l0 t135 t138 x6_1 x7_1 (((rd_T43 t138 x6_1).f0) != ((rd_T43 t138 (ji33)).f1))) else (none)) else (none)) = some true := by first | (rw [hji33] at H; exact H) | (simp only [hji33] at H ⊢; exact H)
                                        have hji33w : (IntKind.i64.wrap (x6_1 - 1)) = ji33 := (i64_w _).trans hji33
                                        by_cases c34 : 0 ≤ (ji33)
                                        · rw [if_pos c34] at H
                                          have c34b0 : decide (0 ≤ (ji33)) = true := decide_eq_true c34
                                          clear c34
                                          by_cases c35 : (ji33) < (t138.length : Int)
                                          · rw [if_pos c35] at H
                                            have c35b0 : decide ((ji33) < (t138.length : Int)) = true := decide_eq_true c35
                                            clear c35
                                            have H' := Aside0.mk H
                                            clear H
                                            have p144 : 0 ≤ (x5_1 : Int) := of_decide_eq_true (by first | (with_reducible assumption) | assumption)
                                            have q144 : x5_1 < (l0.length : Int) := of_decide_eq_true (by first | (with_reducible assumption) | assumption)
                                            obtain ⟨ad144, e144, hx144_0, hx144_1, hx144_2, hx144_3, hx144_4, hx144_5⟩ := at_T25 HR0.out x5_1 p144 q144
                                            (try rw [← Nbq23.out] at hx144_4)
                                            (try rw [← Nbq23.out] at hx144_5)
                                            cases e144
                                            replace hx144_0 := (HB.out.cell (World.block_lt_of_cell? w _ hx144_0)).trans hx144_0
                                            replace hx144_1 := (HB.out.cell (World.block_lt_of_cell? w _ hx144_1)).trans hx144_1
                                            replace hx144_2 := (HB.out.cell (World.block_lt_of_cell? w _ hx144_2)).trans hx144_2
                                            replace hx144_3 := (HB.out.cell (World.block_lt_of_cell? w _ hx144_3)).trans hx144_3
                                            replace hx144_4 := (HB.out.cell (World.block_lt_of_cell? w _ hx144_4)).trans hx144_4
                                            replace hx144_5 := (HB.out.cell (World.block_lt_of_cell? w _ hx144_5)).trans hx144_5
                                            replace p144 := eq_true p144
                                            replace q144 := eq_true q144
                                            obtain ⟨Ao36, co36, eo36⟩ := Kd.R_slice HO_4.out
                                            subst eo36
                                            have p145 : 0 ≤ (x6_1 : Int) := of_decide_eq_true (by first | (with_reducible assumption) | assumption)
                                            have q145 : x6_1 < (t138.length : Int) := of_decide_eq_true (by first | (with_reducible assumption) | assumption)
                                            obtain ⟨ad145, e145, hx145_0, hx145_1⟩ := at_T43 (Kd.R_reads' HO_4.out).2.2 x6_1 p145 q145
                                            cases e145
                                            replace p145 := eq_true p145
                                            replace q145 := eq_true q145
                                            have p146 : 0 ≤ (x7_1 : Int) := of_decide_eq_true (by first | (with_reducible assumption) | assumption)
                                            have q146 : x7_1 < (t135.length : Int) := of_decide_eq_true (by first | (with_reducible assumption) | assumption)
                                            obtain ⟨ad146, e146, hx146_0, hx146_1⟩ := at_T43 (Kd.R_reads' HO_3.out).2.2 x7_1 p146 q146
                                            cases e146
                                            replace p146 := eq_true p146
                                            replace q146 := eq_true q146
                                            have p147 : 0 ≤ (x7_1 : Int) := of_decide_eq_true (by first | (with_reducible assumption) | assumption)
                                            have q147 : x7_1 < (t135.length : Int) := of_decide_eq_true (by first | (with_reducible assumption) | assumption)
                                            obtain ⟨ad147, e147, hx147_0, hx147_1⟩ := at_T43 (Kd.R_reads' HO_3.out).2.2 x7_1 p147 q147
                                            obtain rfl : ad146 = ad147 := (by injection e147)
                                            replace p147 := eq_true p147
                                            replace q147 := eq_true q147
                                            have p148 : 0 ≤ (x6_1 : Int) := of_decide_eq_true (by first | (with_reducible assumption) | assumption)
                                            have q148 : x6_1 < (t138.length : Int) := of_decide_eq_true (by first | (with_reducible assumption) | assumption)
                                            obtain ⟨ad148, e148, hx148_0, hx148_1⟩ := at_T43 (Kd.R_reads' HO_4.out).2.2 x6_1 p148 q148
                                            obtain rfl : ad145 = ad148 := (by injection e148)
                                            replace p148 := eq_true p148
                                            replace q148 := eq_true q148
                                            have p149 : 0 ≤ (x6_1 : Int) := of_decide_eq_true (by first | (with_reducible assumption) | assumption)
                                            have q149 : x6_1 < (t138.length : Int) := of_decide_eq_true (by first | (with_reducible assumption) | assumption)
                                            obtain ⟨ad149, e149, hx149_0, hx149_1⟩ := at_T43 (Kd.R_reads' HO_4.out).2.2 x6_1 p149 q149
                                            obtain rfl : ad145 = ad149 := (by injection e149)
                                            replace p149 := eq_true p149
                                            replace q149 := eq_true q149
                                            have p150 : 0 ≤ ((ji33) : Int) := of_decide_eq_true (by first | (with_reducible assumption) | assumption)
                                            have q150 : (ji33) < (t138.length : Int) := of_decide_eq_true (by first | (with_reducible assumption) | assumption)
                                            obtain ⟨ad150, e150, hx150_0, hx150_1⟩ := at_T43 (Kd.R_reads' HO_4.out).2.2 (ji33) p150 q150
                                            obtain rfl : ad145 = ad150 := (by injection e150)
                                            replace p150 := eq_true p150
                                            replace q150 := eq_true q150
                                            go_wp2
                                            repeat ((first | (refine stickfullaw21_IntrinsicCuts_quiet (by kernel_rfl) (by kernel_rfl) (by kernel_rfl) ?_; (try dsimp only [List.append]); (repeat (go_big_quiet_step (fail))); refine wpQuiet_nil ?_; intro _ hw'; obtain ⟨nq, hw''⟩ := hw'; subst hw'') | (refine stickfullaw21_IntrinsicCuts_quiet (by kernel_rfl) (by kernel_rfl) (by kernel_rfl) ?_; (try dsimp only [List.append]); (repeat (quiet_step (fail))); refine wpQuiet_nil ?_; intro _ hw'; obtain ⟨nq, hw''⟩ := hw'; subst hw'')); try go_wp2)
                                            go_meet
                                            case rel => exact ⟨_, ((((rd_T43 t138 x6_1).f0) != ((rd_T43 t138 (ji33)).f1))), (by first | rfl | (simp; done) | (simp only [← hji33] <;> (first | rfl | simp)) | (simp [*]; done)), H', ⟨by have := HK1.out; have := HJ10.out; first | omega | exact Nat.le_refl _⟩, ⟨by (with_reducible repeat (first | apply Kd.R_alloc | apply Kd.R_drewN | apply Kd.R_drew)); exact HO_3.out⟩, ⟨by (with_reducible repeat (first | apply Kd.R_alloc | apply Kd.R_drewN | apply Kd.R_drew)); exact HO_4.out⟩, ⟨by repeat (first | (with_reducible first | exact HB.out | apply below_alloc | apply pw_below_drewN | apply below_drew1) | exact HB.out)⟩⟩
                                          · rw [if_neg c35] at H
                                            exact absurd H (by simp)
                                        · rw [if_neg c34] at H
                                          exact absurd H (by simp)
                                      · rw [if_neg c32] at H
                                        have c32b0 : decide (0 < x6_1) = false := decide_eq_false c32
                                        clear c32
                                        have H' := Aside0.mk H
                                        clear H
                                        have p144 : 0 ≤ (x5_1 : Int) := of_decide_eq_true (by first | (with_reducible assumption) | assumption)
                                        have q144 : x5_1 < (l0.length : Int) := of_decide_eq_true (by first | (with_reducible assumption) | assumption)
                                        obtain ⟨ad144, e144, hx144_0, hx144_1, hx144_2, hx144_3, hx144_4, hx144_5⟩ := at_T25 HR0.out x5_1 p144 q144
                                        (try rw [← Nbq23.out] at hx144_4)
                                        (try rw [← Nbq23.out] at hx144_5)
                                        cases e144
                                        replace hx144_0 := (HB.out.cell (World.block_lt_of_cell? w _ hx144_0)).trans hx144_0
                                        replace hx144_1 := (HB.out.cell (World.block_lt_of_cell? w _ hx144_1)).trans hx144_1
                                        replace hx144_2 := (HB.out.cell (World.block_lt_of_cell? w _ hx144_2)).trans hx144_2
                                        replace hx144_3 := (HB.out.cell (World.block_lt_of_cell? w _ hx144_3)).trans hx144_3
                                        replace hx144_4 := (HB.out.cell (World.block_lt_of_cell? w _ hx144_4)).trans hx144_4
                                        replace hx144_5 := (HB.out.cell (World.block_lt_of_cell? w _ hx144_5)).trans hx144_5
                                        replace p144 := eq_true p144
                                        replace q144 := eq_true q144
                                        obtain ⟨Ao37, co37, eo37⟩ := Kd.R_slice HO_4.out
                                        subst eo37
                                        have p145 : 0 ≤ (x6_1 : Int) := of_decide_eq_true (by first | (with_reducible assumption) | assumption)
                                        have q145 : x6_1 < (t138.length : Int) := of_decide_eq_true (by first | (with_reducible assumption) | assumption)
                                        obtain ⟨ad145, e145, hx145_0, hx145_1⟩ := at_T43 (Kd.R_reads' HO_4.out).2.2 x6_1 p145 q145
                                        cases e145
                                        replace p145 := eq_true p145
                                        replace q145 := eq_true q145
                                        have p146 : 0 ≤ (x7_1 : Int) := of_decide_eq_true (by first | (with_reducible assumption) | assumption)
                                        have q146 : x7_1 < (t135.length : Int) := of_decide_eq_true (by first | (with_reducible assumption) | assumption)
                                        obtain ⟨ad146, e146, hx146_0, hx146_1⟩ := at_T43 (Kd.R_reads' HO_3.out).2.2 x7_1 p146 q146
                                        cases e146
                                        replace p146 := eq_true p146
                                        replace q146 := eq_true q146
                                        have p147 : 0 ≤ (x7_1 : Int) := of_decide_eq_true (by first | (with_reducible assumption) | assumption)
                                        have q147 : x7_1 < (t135.length : Int) := of_decide_eq_true (by first | (with_reducible assumption) | assumption)
                                        obtain ⟨ad147, e147, hx147_0, hx147_1⟩ := at_T43 (Kd.R_reads' HO_3.out).2.2 x7_1 p147 q147
                                        obtain rfl : ad146 = ad147 := (by injection e147)
                                        replace p147 := eq_true p147
                                        replace q147 := eq_true q147
                                        have p148 : 0 ≤ (x6_1 : Int) := of_decide_eq_true (by first | (with_reducible assumption) | assumption)
                                        have q148 : x6_1 < (t138.length : Int) := of_decide_eq_true (by first | (with_reducible assumption) | assumption)
                                        obtain ⟨ad148, e148, hx148_0, hx148_1⟩ := at_T43 (Kd.R_reads' HO_4.out).2.2 x6_1 p148 q148
                                        obtain rfl : ad145 = ad148 := (by injection e148)
                                        replace p148 := eq_true p148
                                        replace q148 := eq_true q148
                                        go_wp2
                                        repeat ((first | (refine stickfullaw21_IntrinsicCuts_quiet (by kernel_rfl) (by kernel_rfl) (by kernel_rfl) ?_; (try dsimp only [List.append]); (repeat (go_big_quiet_step (fail))); refine wpQuiet_nil ?_; intro _ hw'; obtain ⟨nq, hw''⟩ := hw'; subst hw'') | (refine stickfullaw21_IntrinsicCuts_quiet (by kernel_rfl) (by kernel_rfl) (by kernel_rfl) ?_; (try dsimp only [List.append]); (repeat (quiet_step (fail))); refine wpQuiet_nil ?_; intro _ hw'; obtain ⟨nq, hw''⟩ := hw'; subst hw'')); try go_wp2)
                                        go_meet
                                        case rel => exact ⟨_, (false), (by first | rfl | (simp; done) | (simp [*]; done)), H', ⟨by have := HK1.out; have := HJ10.out; first | omega | exact Nat.le_refl _⟩, ⟨by (with_reducible repeat (first | apply Kd.R_alloc | apply Kd.R_drewN | apply Kd.R_drew)); exact HO_3.out⟩, ⟨by (with_reducible repeat (first | apply Kd.R_alloc | apply Kd.R_drewN | apply Kd.R_drew)); exact HO_4.out⟩, ⟨by repeat (first | (with_reducible first | exact HB.out | apply below_alloc | apply pw_below_drewN | apply below_drew1) | exact HB.out)⟩⟩
                                    · rw [if_neg c31] at H
                                      have c31b0 : (((rd_T43 t135 x7_1).f0) == ((rd_T43 t138 x6_1).f0)) = false := beq_eq_false_iff_ne.mpr c31
                                      have c31b1 : (((rd_T43 t135 x7_1).f0) != ((rd_T43 t138 x6_1).f0)) = true := bne_iff_ne.mpr c31
                                      have H' := Aside0.mk H
                                      clear H
                                      have p144 : 0 ≤ (x5_1 : Int) := of_decide_eq_true (by first | (with_reducible assumption) | assumption)
                                      have q144 : x5_1 < (l0.length : Int) := of_decide_eq_true (by first | (with_reducible assumption) | assumption)
                                      obtain ⟨ad144, e144, hx144_0, hx144_1, hx144_2, hx144_3, hx144_4, hx144_5⟩ := at_T25 HR0.out x5_1 p144 q144
                                      (try rw [← Nbq23.out] at hx144_4)
                                      (try rw [← Nbq23.out] at hx144_5)
                                      cases e144
                                      replace hx144_0 := (HB.out.cell (World.block_lt_of_cell? w _ hx144_0)).trans hx144_0
                                      replace hx144_1 := (HB.out.cell (World.block_lt_of_cell? w _ hx144_1)).trans hx144_1
                                      replace hx144_2 := (HB.out.cell (World.block_lt_of_cell? w _ hx144_2)).trans hx144_2
                                      replace hx144_3 := (HB.out.cell (World.block_lt_of_cell? w _ hx144_3)).trans hx144_3
                                      replace hx144_4 := (HB.out.cell (World.block_lt_of_cell? w _ hx144_4)).trans hx144_4
                                      replace hx144_5 := (HB.out.cell (World.block_lt_of_cell? w _ hx144_5)).trans hx144_5
                                      replace p144 := eq_true p144
                                      replace q144 := eq_true q144
                                      obtain ⟨Ao38, co38, eo38⟩ := Kd.R_slice HO_4.out
                                      subst eo38
                                      have p145 : 0 ≤ (x6_1 : Int) := of_decide_eq_true (by first | (with_reducible assumption) | assumption)
                                      have q145 : x6_1 < (t138.length : Int) := of_decide_eq_true (by first | (with_reducible assumption) | assumption)
                                      obtain ⟨ad145, e145, hx145_0, hx145_1⟩ := at_T43 (Kd.R_reads' HO_4.out).2.2 x6_1 p145 q145
                                      cases e145
                                      replace p145 := eq_true p145
                                      replace q145 := eq_true q145
                                      have p146 : 0 ≤ (x7_1 : Int) := of_decide_eq_true (by first | (with_reducible assumption) | assumption)
                                      have q146 : x7_1 < (t135.length : Int) := of_decide_eq_true (by first | (with_reducible assumption) | assumption)
                                      obtain ⟨ad146, e146, hx146_0, hx146_1⟩ := at_T43 (Kd.R_reads' HO_3.out).2.2 x7_1 p146 q146
                                      cases e146
                                      replace p146 := eq_true p146
                                      replace q146 := eq_true q146
                                      have p147 : 0 ≤ (x7_1 : Int) := of_decide_eq_true (by first | (with_reducible assumption) | assumption)
                                      have q147 : x7_1 < (t135.length : Int) := of_decide_eq_true (by first | (with_reducible assumption) | assumption)
                                      obtain ⟨ad147, e147, hx147_0, hx147_1⟩ := at_T43 (Kd.R_reads' HO_3.out).2.2 x7_1 p147 q147
                                      obtain rfl : ad146 = ad147 := (by injection e147)
                                      replace p147 := eq_true p147
                                      replace q147 := eq_true q147
                                      have p148 : 0 ≤ (x6_1 : Int) := of_decide_eq_true (by first | (with_reducible assumption) | assumption)
                                      have q148 : x6_1 < (t138.length : Int) := of_decide_eq_true (by first | (with_reducible assumption) | assumption)
                                      obtain ⟨ad148, e148, hx148_0, hx148_1⟩ := at_T43 (Kd.R_reads' HO_4.out).2.2 x6_1 p148 q148
                                      obtain rfl : ad145 = ad148 := (by injection e148)
                                      replace p148 := eq_true p148
                                      replace q148 := eq_true q148
                                      go_wp2
                                      repeat ((first | (refine stickfullaw21_IntrinsicCuts_quiet (by kernel_rfl) (by kernel_rfl) (by kernel_rfl) ?_; (try dsimp only [List.append]); (repeat (go_big_quiet_step (fail))); refine wpQuiet_nil ?_; intro _ hw'; obtain ⟨nq, hw''⟩ := hw'; subst hw'') | (refine stickfullaw21_IntrinsicCuts_quiet (by kernel_rfl) (by kernel_rfl) (by kernel_rfl) ?_; (try dsimp only [List.append]); (repeat (quiet_step (fail))); refine wpQuiet_nil ?_; intro _ hw'; obtain ⟨nq, hw''⟩ := hw'; subst hw'')); try go_wp2)
                                      go_meet
                                      case rel => exact ⟨_, (false), (by first | rfl | (simp; done) | (simp [*]; done)), H', ⟨by have := HK1.out; have := HJ10.out; first | omega | exact Nat.le_refl _⟩, ⟨by (with_reducible repeat (first | apply Kd.R_alloc | apply Kd.R_drewN | apply Kd.R_drew)); exact HO_3.out⟩, ⟨by (with_reducible repeat (first | apply Kd.R_alloc | apply Kd.R_drewN | apply Kd.R_drew)); exact HO_4.out⟩, ⟨by repeat (first | (with_reducible first | exact HB.out | apply below_alloc | apply pw_below_drewN | apply below_drew1) | exact HB.out)⟩⟩
                                · rw [if_neg c28] at H
                                  exact absurd H (by simp)
                              · rw [if_neg c27] at H
                                exact absurd H (by simp)
                            · rw [if_neg c26] at H
                              exact absurd H (by simp)
                          · rw [if_neg c25] at H
                            exact absurd H (by simp)
                        · replace c24 := Bool.eq_false_iff.mpr c24
                          subst c24
                          have H1 : (if ((rd_T25 l0 x5_1).f5 = true) then (if 0 ≤ x6_1 then (if x6_1 < (t138.length : Int) then (if 0 ≤ x7_1 then (if x7_1 < (t135.length : Int) then (if ((rd_T43 t138 x6_1).f1) < ((rd_T43 t135 x7_1).f1) then (stickfullaw21_IntrinsicCuts.j2 kj10 l0 t135 t138 x6_1 x7_1 true) else (if ((rd_T43 t135 x7_1).f0) = ((rd_T43 t138 x6_1).f0) then (if x6_1 > 0 then (if 0 ≤ (wrap64 (x6_1 - 1)) then (if (wrap64 (x6_1 - 1)) < (t138.length : Int) then (stickfullaw21_IntrinsicCuts.j2 kj10 l0 t135 t138 x6_1 x7_1 (((rd_T43 t138 x6_1).f0) != ((rd_T43 t138 (wrap64 (x6_1 - 1))).f1))) else (none)) else (none)) else (stickfullaw21_IntrinsicCuts.j2 kj10 l0 t135 t138 x6_1 x7_1 false)) else (stickfullaw21_IntrinsicCuts.j2 kj10 l0 t135 t138 x6_1 x7_1 false))) else (none)) else (none)) else (none)) else (none)) else (if 0 ≤ (wrap64 (x5_1 - 1)) then (if (wrap64 (x5_1 - 1)) < (l0.length : Int) then (if ((rd_T25 l0 (wrap64 (x5_1 - 1))).f0) = 5 then (if 0 ≤ x6_1 then (if x6_1 < (t138.length : Int) then (if 0 ≤ x7_1 then (if x7_1 < (t135.length : Int) then (if ((rd_T43 t138 x6_1).f1) < ((rd_T43 t135 x7_1).f1) then (stickfullaw21_IntrinsicCuts.j2 kj10 l0 t135 t138 x6_1 x7_1 true) else (if ((rd_T43 t135 x7_1).f0) = ((rd_T43 t138 x6_1).f0) then (if x6_1 > 0 then (if 0 ≤ (wrap64 (x6_1 - 1)) then (if (wrap64 (x6_1 - 1)) < (t138.length : Int) then (stickfullaw21_IntrinsicCuts.j2 kj10 l0 t135 t138 x6_1 x7_1 (((rd_T43 t138 x6_1).f0) != ((rd_T43 t138 (wrap64 (x6_1 - 1))).f1))) else (none)) else (none)) else (stickfullaw21_IntrinsicCuts.j2 kj10 l0 t135 t138 x6_1 x7_1 false)) else (stickfullaw21_IntrinsicCuts.j2 kj10 l0 t135 t138 x6_1 x7_1 false))) else (none)) else (none)) else (none)) else (none)) else (stickfullaw21_IntrinsicCuts.j2 kj10 l0 t135 t138 x6_1 x7_1 true)) else (none)) else (none))) = some true := by rw [if_neg (show ¬ (false = true) by decide)] at H; exact H
                          clear H
                          have H := H1
                          clear H1
                          obtain ⟨bq39, hbq39⟩ : ∃ b_ : Bool, b_ = ((rd_T25 l0 x5_1).f5) := ⟨_, rfl⟩
                          replace H : (if (bq39 = true) then (if 0 ≤ x6_1 then (if x6_1 < (t138.length : Int) then (if 0 ≤ x7_1 then (if x7_1 < (t135.length : Int) then (if ((rd_T43 t138 x6_1).f1) < ((rd_T43 t135 x7_1).f1) then (stickfullaw21_IntrinsicCuts.j2 kj10 l0 t135 t138 x6_1 x7_1 true) else (if ((rd_T43 t135 x7_1).f0) = ((rd_T43 t138 x6_1).f0) then (if x6_1 > 0 then (if 0 ≤ (wrap64 (x6_1 - 1)) then (if (wrap64 (x6_1 - 1)) < (t138.length : Int) then (stickfullaw21_IntrinsicCuts.j2 kj10 l0 t135 t138 x6_1 x7_1 (((rd_T43 t138 x6_1).f0) != ((rd_T43 t138 (wrap64 (x6_1 - 1))).f1))) else (none)) else (none)) else (stickfullaw21_IntrinsicCuts.j2 kj10 l0 t135 t138 x6_1 x7_1 false)) else (stickfullaw21_IntrinsicCuts.j2 kj10 l0 t135 t138 x6_1 x7_1 false))) else (none)) else (none)) else (none)) else (none)) else (if 0 ≤ (wrap64 (x5_1 - 1)) then (if (wrap64 (x5_1 - 1)) < (l0.length : Int) then (if ((rd_T25 l0 (wrap64 (x5_1 - 1))).f0) = 5 then (if 0 ≤ x6_1 then (if x6_1 < (t138.length : Int) then (if 0 ≤ x7_1 then (if x7_1 < (t135.length : Int) then (if ((rd_T43 t138 x6_1).f1) < ((rd_T43 t135 x7_1).f1) then (stickfullaw21_IntrinsicCuts.j2 kj10 l0 t135 t138 x6_1 x7_1 true) else (if ((rd_T43 t135 x7_1).f0) = ((rd_T43 t138 x6_1).f0) then (if x6_1 > 0 then (if 0 ≤ (wrap64 (x6_1 - 1)) then (if (wrap64 (x6_1 - 1)) < (t138.length : Int) then (stickfullaw21_IntrinsicCuts.j2 kj10 l0 t135 t138 x6_1 x7_1 (((rd_T43 t138 x6_1).f0) != ((rd_T43 t138 (wrap64 (x6_1 - 1))).f1))) else (none)) else (none)) else (stickfullaw21_IntrinsicCuts.j2 kj10 l0 t135 t138 x6_1 x7_1 false)) else (stickfullaw21_IntrinsicCuts.j2 kj10 l0 t135 t138 x6_1 x7_1 false))) else (none)) else (none)) else (none)) else (none)) else (stickfullaw21_IntrinsicCuts.j2 kj10 l0 t135 t138 x6_1 x7_1 true)) else (none)) else (none))) = some true := by rw [← hbq39] at H; exact H
                          have Nbq39 := Aside0.mk hbq39
                          clear hbq39
                          by_cases c40 : (bq39 = true)
                          · subst c40
                            have H1 : (if 0 ≤ x6_1 then (if x6_1 < (t138.length : Int) then (if 0 ≤ x7_1 then (if x7_1 < (t135.length : Int) then (if ((rd_T43 t138 x6_1).f1) < ((rd_T43 t135 x7_1).f1) then (stickfullaw21_IntrinsicCuts.j2 kj10 l0 t135 t138 x6_1 x7_1 true) else (if ((rd_T43 t135 x7_1).f0) = ((rd_T43 t138 x6_1).f0) then (if x6_1 > 0 then (if 0 ≤ (wrap64 (x6_1 - 1)) then (if (wrap64 (x6_1 - 1)) < (t138.length : Int) then (stickfullaw21_IntrinsicCuts.j2 kj10 l0 t135 t138 x6_1 x7_1 (((rd_T43 t138 x6_1).f0) != ((rd_T43 t138 (wrap64 (x6_1 - 1))).f1))) else (none)) else (none)) else (stickfullaw21_IntrinsicCuts.j2 kj10 l0 t135 t138 x6_1 x7_1 false)) else (stickfullaw21_IntrinsicCuts.j2 kj10 l0 t135 t138 x6_1 x7_1 false))) else (none)) else (none)) else (none)) else (none)) = some true := by rw [if_pos rfl] at H; exact H
                            clear H
                            have H := H1
                            clear H1
                            by_cases c41 : 0 ≤ x6_1
                            · rw [if_pos c41] at H
                              have c41b0 : decide (0 ≤ x6_1) = true := decide_eq_true c41
                              clear c41
                              by_cases c42 : x6_1 < (t138.length : Int)
                              · rw [if_pos c42] at H
                                have c42b0 : decide (x6_1 < (t138.length : Int)) = true := decide_eq_true c42
                                clear c42
                                by_cases c43 : 0 ≤ x7_1
                                · rw [if_pos c43] at H
                                  have c43b0 : decide (0 ≤ x7_1) = true := decide_eq_true c43
                                  clear c43
                                  by_cases c44 : x7_1 < (t135.length : Int)
                                  · rw [if_pos c44] at H
                                    have c44b0 : decide (x7_1 < (t135.length : Int)) = true := decide_eq_true c44
                                    clear c44
                                    by_cases c45 : ((rd_T43 t138 x6_1).f1) < ((rd_T43 t135 x7_1).f1)
                                    · rw [if_pos c45] at H
                                      have c45b0 : decide (((rd_T43 t138 x6_1).f1) < ((rd_T43 t135 x7_1).f1)) = true := decide_eq_true c45
                                      clear c45
                                      first | exact (stickfullaw21_IntrinsicCuts.j1_no _ _ _ _ _ _ _ H).elim | exact (stickfullaw21_IntrinsicCuts.j2_no _ _ _ _ _ _ H).elim
                                    · rw [if_neg c45] at H
                                      have c45b0 : decide (((rd_T43 t138 x6_1).f1) < ((rd_T43 t135 x7_1).f1)) = false := decide_eq_false c45
                                      clear c45
                                      by_cases c47 : ((rd_T43 t135 x7_1).f0) = ((rd_T43 t138 x6_1).f0)
                                      · rw [if_pos c47] at H
                                        have c47b0 : (((rd_T43 t135 x7_1).f0) == ((rd_T43 t138 x6_1).f0)) = true := beq_iff_eq.mpr c47
                                        have c47b1 : (((rd_T43 t135 x7_1).f0) != ((rd_T43 t138 x6_1).f0)) = false := bne_eq_false_iff_eq.mpr c47
                                        clear c47
                                        by_cases c48 : x6_1 > 0
                                        · rw [if_pos c48] at H
                                          have c48b0 : decide (0 < x6_1) = true := decide_eq_true c48
                                          clear c48
                                          obtain ⟨ji49, hji49⟩ : ∃ j_ : Int, (wrap64 (x6_1 - 1)) = j_ := ⟨_, rfl⟩
                                          replace H : (if 0 ≤ (ji49) then (if (ji49) < (t138.length : Int) then (stickfullaw21_IntrinsicCuts.j2 kj10 l0 t135 t138 x6_1 x7_1 (((rd_T43 t138 x6_1).f0) != ((rd_T43 t138 (ji49)).f1))) else (none)) else (none)) = some true := by first | (rw [hji49] at H; exact H) | (simp only [hji49] at H ⊢; exact H)
                                          have hji49w : (IntKind.i64.wrap (x6_1 - 1)) = ji49 := (i64_w _).trans hji49
                                          by_cases c50 : 0 ≤ (ji49)
                                          · rw [if_pos c50] at H
                                            have c50b0 : decide (0 ≤ (ji49)) = true := decide_eq_true c50
                                            clear c50
                                            by_cases c51 : (ji49) < (t138.length : Int)
                                            · rw [if_pos c51] at H
                                              have c51b0 : decide ((ji49) < (t138.length : Int)) = true := decide_eq_true c51
                                              clear c51
                                              have H' := Aside0.mk H
                                              clear H
                                              have p144 : 0 ≤ (x5_1 : Int) := of_decide_eq_true (by first | (with_reducible assumption) | assumption)
                                              have q144 : x5_1 < (l0.length : Int) := of_decide_eq_true (by first | (with_reducible assumption) | assumption)
                                              obtain ⟨ad144, e144, hx144_0, hx144_1, hx144_2, hx144_3, hx144_4, hx144_5⟩ := at_T25 HR0.out x5_1 p144 q144
                                              (try rw [← Nbq23.out] at hx144_4)
                                              (try rw [← Nbq39.out] at hx144_4)
                                              (try rw [← Nbq23.out] at hx144_5)
                                              (try rw [← Nbq39.out] at hx144_5)
                                              cases e144
                                              replace hx144_0 := (HB.out.cell (World.block_lt_of_cell? w _ hx144_0)).trans hx144_0
                                              replace hx144_1 := (HB.out.cell (World.block_lt_of_cell? w _ hx144_1)).trans hx144_1
                                              replace hx144_2 := (HB.out.cell (World.block_lt_of_cell? w _ hx144_2)).trans hx144_2
                                              replace hx144_3 := (HB.out.cell (World.block_lt_of_cell? w _ hx144_3)).trans hx144_3
                                              replace hx144_4 := (HB.out.cell (World.block_lt_of_cell? w _ hx144_4)).trans hx144_4
                                              replace hx144_5 := (HB.out.cell (World.block_lt_of_cell? w _ hx144_5)).trans hx144_5
                                              replace p144 := eq_true p144
                                              replace q144 := eq_true q144
                                              have p151 : 0 ≤ (x5_1 : Int) := of_decide_eq_true (by first | (with_reducible assumption) | assumption)
                                              have q151 : x5_1 < (l0.length : Int) := of_decide_eq_true (by first | (with_reducible assumption) | assumption)
                                              obtain ⟨ad151, e151, hx151_0, hx151_1, hx151_2, hx151_3, hx151_4, hx151_5⟩ := at_T25 HR0.out x5_1 p151 q151
                                              (try rw [← Nbq23.out] at hx151_4)
                                              (try rw [← Nbq39.out] at hx151_4)
                                              (try rw [← Nbq23.out] at hx151_5)
                                              (try rw [← Nbq39.out] at hx151_5)
                                              obtain rfl : ad144 = ad151 := (by injection e151)
                                              replace hx151_0 := (HB.out.cell (World.block_lt_of_cell? w _ hx151_0)).trans hx151_0
                                              replace hx151_1 := (HB.out.cell (World.block_lt_of_cell? w _ hx151_1)).trans hx151_1
                                              replace hx151_2 := (HB.out.cell (World.block_lt_of_cell? w _ hx151_2)).trans hx151_2
                                              replace hx151_3 := (HB.out.cell (World.block_lt_of_cell? w _ hx151_3)).trans hx151_3
                                              replace hx151_4 := (HB.out.cell (World.block_lt_of_cell? w _ hx151_4)).trans hx151_4
                                              replace hx151_5 := (HB.out.cell (World.block_lt_of_cell? w _ hx151_5)).trans hx151_5
                                              replace p151 := eq_true p151
                                              replace q151 := eq_true q151
                                              obtain ⟨Ao52, co52, eo52⟩ := Kd.R_slice HO_4.out
                                              subst eo52
                                              have p152 : 0 ≤ (x6_1 : Int) := of_decide_eq_true (by first | (with_reducible assumption) | assumption)
                                              have q152 : x6_1 < (t138.length : Int) := of_decide_eq_true (by first | (with_reducible assumption) | assumption)
                                              obtain ⟨ad152, e152, hx152_0, hx152_1⟩ := at_T43 (Kd.R_reads' HO_4.out).2.2 x6_1 p152 q152
                                              cases e152
                                              replace p152 := eq_true p152
                                              replace q152 := eq_true q152
                                              have p153 : 0 ≤ (x7_1 : Int) := of_decide_eq_true (by first | (with_reducible assumption) | assumption)
                                              have q153 : x7_1 < (t135.length : Int) := of_decide_eq_true (by first | (with_reducible assumption) | assumption)
                                              obtain ⟨ad153, e153, hx153_0, hx153_1⟩ := at_T43 (Kd.R_reads' HO_3.out).2.2 x7_1 p153 q153
                                              cases e153
                                              replace p153 := eq_true p153
                                              replace q153 := eq_true q153
                                              have p154 : 0 ≤ (x7_1 : Int) := of_decide_eq_true (by first | (with_reducible assumption) | assumption)
                                              have q154 : x7_1 < (t135.length : Int) := of_decide_eq_true (by first | (with_reducible assumption) | assumption)
                                              obtain ⟨ad154, e154, hx154_0, hx154_1⟩ := at_T43 (Kd.R_reads' HO_3.out).2.2 x7_1 p154 q154
                                              obtain rfl : ad153 = ad154 := (by injection e154)
                                              replace p154 := eq_true p154
                                              replace q154 := eq_true q154
                                              have p155 : 0 ≤ (x6_1 : Int) := of_decide_eq_true (by first | (with_reducible assumption) | assumption)
                                              have q155 : x6_1 < (t138.length : Int) := of_decide_eq_true (by first | (with_reducible assumption) | assumption)
                                              obtain ⟨ad155, e155, hx155_0, hx155_1⟩ := at_T43 (Kd.R_reads' HO_4.out).2.2 x6_1 p155 q155
                                              obtain rfl : ad152 = ad155 := (by injection e155)
                                              replace p155 := eq_true p155
                                              replace q155 := eq_true q155
                                              have p156 : 0 ≤ (x6_1 : Int) := of_decide_eq_true (by first | (with_reducible assumption) | assumption)
                                              have q156 : x6_1 < (t138.length : Int) := of_decide_eq_true (by first | (with_reducible assumption) | assumption)
                                              obtain ⟨ad156, e156, hx156_0, hx156_1⟩ := at_T43 (Kd.R_reads' HO_4.out).2.2 x6_1 p156 q156
                                              obtain rfl : ad152 = ad156 := (by injection e156)
                                              replace p156 := eq_true p156
                                              replace q156 := eq_true q156
                                              have p157 : 0 ≤ ((ji49) : Int) := of_decide_eq_true (by first | (with_reducible assumption) | assumption)
                                              have q157 : (ji49) < (t138.length : Int) := of_decide_eq_true (by first | (with_reducible assumption) | assumption)
                                              obtain ⟨ad157, e157, hx157_0, hx157_1⟩ := at_T43 (Kd.R_reads' HO_4.out).2.2 (ji49) p157 q157
                                              obtain rfl : ad152 = ad157 := (by injection e157)
                                              replace p157 := eq_true p157
                                              replace q157 := eq_true q157
                                              go_wp2
                                              repeat ((first | (refine stickfullaw21_IntrinsicCuts_quiet (by kernel_rfl) (by kernel_rfl) (by kernel_rfl) ?_; (try dsimp only [List.append]); (repeat (go_big_quiet_step (fail))); refine wpQuiet_nil ?_; intro _ hw'; obtain ⟨nq, hw''⟩ := hw'; subst hw'') | (refine stickfullaw21_IntrinsicCuts_quiet (by kernel_rfl) (by kernel_rfl) (by kernel_rfl) ?_; (try dsimp only [List.append]); (repeat (quiet_step (fail))); refine wpQuiet_nil ?_; intro _ hw'; obtain ⟨nq, hw''⟩ := hw'; subst hw'')); try go_wp2)
                                              go_meet
                                              case rel => exact ⟨_, ((((rd_T43 t138 x6_1).f0) != ((rd_T43 t138 (ji49)).f1))), (by first | rfl | (simp; done) | (simp only [← hji49] <;> (first | rfl | simp)) | (simp [*]; done)), H', ⟨by have := HK1.out; have := HJ10.out; first | omega | exact Nat.le_refl _⟩, ⟨by (with_reducible repeat (first | apply Kd.R_alloc | apply Kd.R_drewN | apply Kd.R_drew)); exact HO_3.out⟩, ⟨by (with_reducible repeat (first | apply Kd.R_alloc | apply Kd.R_drewN | apply Kd.R_drew)); exact HO_4.out⟩, ⟨by repeat (first | (with_reducible first | exact HB.out | apply below_alloc | apply pw_below_drewN | apply below_drew1) | exact HB.out)⟩⟩
                                            · rw [if_neg c51] at H
                                              exact absurd H (by simp)
                                          · rw [if_neg c50] at H
                                            exact absurd H (by simp)
                                        · rw [if_neg c48] at H
                                          have c48b0 : decide (0 < x6_1) = false := decide_eq_false c48
                                          clear c48
                                          have H' := Aside0.mk H
                                          clear H
                                          have p144 : 0 ≤ (x5_1 : Int) := of_decide_eq_true (by first | (with_reducible assumption) | assumption)
                                          have q144 : x5_1 < (l0.length : Int) := of_decide_eq_true (by first | (with_reducible assumption) | assumption)
                                          obtain ⟨ad144, e144, hx144_0, hx144_1, hx144_2, hx144_3, hx144_4, hx144_5⟩ := at_T25 HR0.out x5_1 p144 q144
                                          (try rw [← Nbq23.out] at hx144_4)
                                          (try rw [← Nbq39.out] at hx144_4)
                                          (try rw [← Nbq23.out] at hx144_5)
                                          (try rw [← Nbq39.out] at hx144_5)
                                          cases e144
                                          replace hx144_0 := (HB.out.cell (World.block_lt_of_cell? w _ hx144_0)).trans hx144_0
                                          replace hx144_1 := (HB.out.cell (World.block_lt_of_cell? w _ hx144_1)).trans hx144_1
                                          replace hx144_2 := (HB.out.cell (World.block_lt_of_cell? w _ hx144_2)).trans hx144_2
                                          replace hx144_3 := (HB.out.cell (World.block_lt_of_cell? w _ hx144_3)).trans hx144_3
                                          replace hx144_4 := (HB.out.cell (World.block_lt_of_cell? w _ hx144_4)).trans hx144_4
                                          replace hx144_5 := (HB.out.cell (World.block_lt_of_cell? w _ hx144_5)).trans hx144_5
                                          replace p144 := eq_true p144
                                          replace q144 := eq_true q144
                                          have p151 : 0 ≤ (x5_1 : Int) := of_decide_eq_true (by first | (with_reducible assumption) | assumption)
                                          have q151 : x5_1 < (l0.length : Int) := of_decide_eq_true (by first | (with_reducible assumption) | assumption)
                                          obtain ⟨ad151, e151, hx151_0, hx151_1, hx151_2, hx151_3, hx151_4, hx151_5⟩ := at_T25 HR0.out x5_1 p151 q151
                                          (try rw [← Nbq23.out] at hx151_4)
                                          (try rw [← Nbq39.out] at hx151_4)
                                          (try rw [← Nbq23.out] at hx151_5)
                                          (try rw [← Nbq39.out] at hx151_5)
                                          obtain rfl : ad144 = ad151 := (by injection e151)
                                          replace hx151_0 := (HB.out.cell (World.block_lt_of_cell? w _ hx151_0)).trans hx151_0
                                          replace hx151_1 := (HB.out.cell (World.block_lt_of_cell? w _ hx151_1)).trans hx151_1
                                          replace hx151_2 := (HB.out.cell (World.block_lt_of_cell? w _ hx151_2)).trans hx151_2
                                          replace hx151_3 := (HB.out.cell (World.block_lt_of_cell? w _ hx151_3)).trans hx151_3
                                          replace hx151_4 := (HB.out.cell (World.block_lt_of_cell? w _ hx151_4)).trans hx151_4
                                          replace hx151_5 := (HB.out.cell (World.block_lt_of_cell? w _ hx151_5)).trans hx151_5
                                          replace p151 := eq_true p151
                                          replace q151 := eq_true q151
                                          obtain ⟨Ao53, co53, eo53⟩ := Kd.R_slice HO_4.out
                                          subst eo53
                                          have p152 : 0 ≤ (x6_1 : Int) := of_decide_eq_true (by first | (with_reducible assumption) | assumption)
                                          have q152 : x6_1 < (t138.length : Int) := of_decide_eq_true (by first | (with_reducible assumption) | assumption)
                                          obtain ⟨ad152, e152, hx152_0, hx152_1⟩ := at_T43 (Kd.R_reads' HO_4.out).2.2 x6_1 p152 q152
                                          cases e152
                                          replace p152 := eq_true p152
                                          replace q152 := eq_true q152
                                          have p153 : 0 ≤ (x7_1 : Int) := of_decide_eq_true (by first | (with_reducible assumption) | assumption)
                                          have q153 : x7_1 < (t135.length : Int) := of_decide_eq_true (by first | (with_reducible assumption) | assumption)
                                          obtain ⟨ad153, e153, hx153_0, hx153_1⟩ := at_T43 (Kd.R_reads' HO_3.out).2.2 x7_1 p153 q153
                                          cases e153
                                          replace p153 := eq_true p153
                                          replace q153 := eq_true q153
                                          have p154 : 0 ≤ (x7_1 : Int) := of_decide_eq_true (by first | (with_reducible assumption) | assumption)
                                          have q154 : x7_1 < (t135.length : Int) := of_decide_eq_true (by first | (with_reducible assumption) | assumption)
                                          obtain ⟨ad154, e154, hx154_0, hx154_1⟩ := at_T43 (Kd.R_reads' HO_3.out).2.2 x7_1 p154 q154
                                          obtain rfl : ad153 = ad154 := (by injection e154)
                                          replace p154 := eq_true p154
                                          replace q154 := eq_true q154
                                          have p155 : 0 ≤ (x6_1 : Int) := of_decide_eq_true (by first | (with_reducible assumption) | assumption)
                                          have q155 : x6_1 < (t138.length : Int) := of_decide_eq_true (by first | (with_reducible assumption) | assumption)
                                          obtain ⟨ad155, e155, hx155_0, hx155_1⟩ := at_T43 (Kd.R_reads' HO_4.out).2.2 x6_1 p155 q155
                                          obtain rfl : ad152 = ad155 := (by injection e155)
                                          replace p155 := eq_true p155
                                          replace q155 := eq_true q155
                                          go_wp2
                                          repeat ((first | (refine stickfullaw21_IntrinsicCuts_quiet (by kernel_rfl) (by kernel_rfl) (by kernel_rfl) ?_; (try dsimp only [List.append]); (repeat (go_big_quiet_step (fail))); refine wpQuiet_nil ?_; intro _ hw'; obtain ⟨nq, hw''⟩ := hw'; subst hw'') | (refine stickfullaw21_IntrinsicCuts_quiet (by kernel_rfl) (by kernel_rfl) (by kernel_rfl) ?_; (try dsimp only [List.append]); (repeat (quiet_step (fail))); refine wpQuiet_nil ?_; intro _ hw'; obtain ⟨nq, hw''⟩ := hw'; subst hw'')); try go_wp2)
                                          go_meet
                                          case rel => exact ⟨_, (false), (by first | rfl | (simp; done) | (simp [*]; done)), H', ⟨by have := HK1.out; have := HJ10.out; first | omega | exact Nat.le_refl _⟩, ⟨by (with_reducible repeat (first | apply Kd.R_alloc | apply Kd.R_drewN | apply Kd.R_drew)); exact HO_3.out⟩, ⟨by (with_reducible repeat (first | apply Kd.R_alloc | apply Kd.R_drewN | apply Kd.R_drew)); exact HO_4.out⟩, ⟨by repeat (first | (with_reducible first | exact HB.out | apply below_alloc | apply pw_below_drewN | apply below_drew1) | exact HB.out)⟩⟩
                                      · rw [if_neg c47] at H
                                        have c47b0 : (((rd_T43 t135 x7_1).f0) == ((rd_T43 t138 x6_1).f0)) = false := beq_eq_false_iff_ne.mpr c47
                                        have c47b1 : (((rd_T43 t135 x7_1).f0) != ((rd_T43 t138 x6_1).f0)) = true := bne_iff_ne.mpr c47
                                        have H' := Aside0.mk H
                                        clear H
                                        have p144 : 0 ≤ (x5_1 : Int) := of_decide_eq_true (by first | (with_reducible assumption) | assumption)
                                        have q144 : x5_1 < (l0.length : Int) := of_decide_eq_true (by first | (with_reducible assumption) | assumption)
                                        obtain ⟨ad144, e144, hx144_0, hx144_1, hx144_2, hx144_3, hx144_4, hx144_5⟩ := at_T25 HR0.out x5_1 p144 q144
                                        (try rw [← Nbq23.out] at hx144_4)
                                        (try rw [← Nbq39.out] at hx144_4)
                                        (try rw [← Nbq23.out] at hx144_5)
                                        (try rw [← Nbq39.out] at hx144_5)
                                        cases e144
                                        replace hx144_0 := (HB.out.cell (World.block_lt_of_cell? w _ hx144_0)).trans hx144_0
                                        replace hx144_1 := (HB.out.cell (World.block_lt_of_cell? w _ hx144_1)).trans hx144_1
                                        replace hx144_2 := (HB.out.cell (World.block_lt_of_cell? w _ hx144_2)).trans hx144_2
                                        replace hx144_3 := (HB.out.cell (World.block_lt_of_cell? w _ hx144_3)).trans hx144_3
                                        replace hx144_4 := (HB.out.cell (World.block_lt_of_cell? w _ hx144_4)).trans hx144_4
                                        replace hx144_5 := (HB.out.cell (World.block_lt_of_cell? w _ hx144_5)).trans hx144_5
                                        replace p144 := eq_true p144
                                        replace q144 := eq_true q144
                                        have p151 : 0 ≤ (x5_1 : Int) := of_decide_eq_true (by first | (with_reducible assumption) | assumption)
                                        have q151 : x5_1 < (l0.length : Int) := of_decide_eq_true (by first | (with_reducible assumption) | assumption)
                                        obtain ⟨ad151, e151, hx151_0, hx151_1, hx151_2, hx151_3, hx151_4, hx151_5⟩ := at_T25 HR0.out x5_1 p151 q151
                                        (try rw [← Nbq23.out] at hx151_4)
                                        (try rw [← Nbq39.out] at hx151_4)
                                        (try rw [← Nbq23.out] at hx151_5)
                                        (try rw [← Nbq39.out] at hx151_5)
                                        obtain rfl : ad144 = ad151 := (by injection e151)
                                        replace hx151_0 := (HB.out.cell (World.block_lt_of_cell? w _ hx151_0)).trans hx151_0
                                        replace hx151_1 := (HB.out.cell (World.block_lt_of_cell? w _ hx151_1)).trans hx151_1
                                        replace hx151_2 := (HB.out.cell (World.block_lt_of_cell? w _ hx151_2)).trans hx151_2
                                        replace hx151_3 := (HB.out.cell (World.block_lt_of_cell? w _ hx151_3)).trans hx151_3
                                        replace hx151_4 := (HB.out.cell (World.block_lt_of_cell? w _ hx151_4)).trans hx151_4
                                        replace hx151_5 := (HB.out.cell (World.block_lt_of_cell? w _ hx151_5)).trans hx151_5
                                        replace p151 := eq_true p151
                                        replace q151 := eq_true q151
                                        obtain ⟨Ao54, co54, eo54⟩ := Kd.R_slice HO_4.out
                                        subst eo54
                                        have p152 : 0 ≤ (x6_1 : Int) := of_decide_eq_true (by first | (with_reducible assumption) | assumption)
                                        have q152 : x6_1 < (t138.length : Int) := of_decide_eq_true (by first | (with_reducible assumption) | assumption)
                                        obtain ⟨ad152, e152, hx152_0, hx152_1⟩ := at_T43 (Kd.R_reads' HO_4.out).2.2 x6_1 p152 q152
                                        cases e152
                                        replace p152 := eq_true p152
                                        replace q152 := eq_true q152
                                        have p153 : 0 ≤ (x7_1 : Int) := of_decide_eq_true (by first | (with_reducible assumption) | assumption)
                                        have q153 : x7_1 < (t135.length : Int) := of_decide_eq_true (by first | (with_reducible assumption) | assumption)
                                        obtain ⟨ad153, e153, hx153_0, hx153_1⟩ := at_T43 (Kd.R_reads' HO_3.out).2.2 x7_1 p153 q153
                                        cases e153
                                        replace p153 := eq_true p153
                                        replace q153 := eq_true q153
                                        have p154 : 0 ≤ (x7_1 : Int) := of_decide_eq_true (by first | (with_reducible assumption) | assumption)
                                        have q154 : x7_1 < (t135.length : Int) := of_decide_eq_true (by first | (with_reducible assumption) | assumption)
                                        obtain ⟨ad154, e154, hx154_0, hx154_1⟩ := at_T43 (Kd.R_reads' HO_3.out).2.2 x7_1 p154 q154
                                        obtain rfl : ad153 = ad154 := (by injection e154)
                                        replace p154 := eq_true p154
                                        replace q154 := eq_true q154
                                        have p155 : 0 ≤ (x6_1 : Int) := of_decide_eq_true (by first | (with_reducible assumption) | assumption)
                                        have q155 : x6_1 < (t138.length : Int) := of_decide_eq_true (by first | (with_reducible assumption) | assumption)
                                        obtain ⟨ad155, e155, hx155_0, hx155_1⟩ := at_T43 (Kd.R_reads' HO_4.out).2.2 x6_1 p155 q155
                                        obtain rfl : ad152 = ad155 := (by injection e155)
                                        replace p155 := eq_true p155
                                        replace q155 := eq_true q155
                                        go_wp2
                                        repeat ((first | (refine stickfullaw21_IntrinsicCuts_quiet (by kernel_rfl) (by kernel_rfl) (by kernel_rfl) ?_; (try dsimp only [List.append]); (repeat (go_big_quiet_step (fail))); refine wpQuiet_nil ?_; intro _ hw'; obtain ⟨nq, hw''⟩ := hw'; subst hw'') | (refine stickfullaw21_IntrinsicCuts_quiet (by kernel_rfl) (by kernel_rfl) (by kernel_rfl) ?_; (try dsimp only [List.append]); (repeat (quiet_step (fail))); refine wpQuiet_nil ?_; intro _ hw'; obtain ⟨nq, hw''⟩ := hw'; subst hw'')); try go_wp2)
                                        go_meet
                                        case rel => exact ⟨_, (false), (by first | rfl | (simp; done) | (simp [*]; done)), H', ⟨by have := HK1.out; have := HJ10.out; first | omega | exact Nat.le_refl _⟩, ⟨by (with_reducible repeat (first | apply Kd.R_alloc | apply Kd.R_drewN | apply Kd.R_drew)); exact HO_3.out⟩, ⟨by (with_reducible repeat (first | apply Kd.R_alloc | apply Kd.R_drewN | apply Kd.R_drew)); exact HO_4.out⟩, ⟨by repeat (first | (with_reducible first | exact HB.out | apply below_alloc | apply pw_below_drewN | apply below_drew1) | exact HB.out)⟩⟩
                                  · rw [if_neg c44] at H
                                    exact absurd H (by simp)
                                · rw [if_neg c43] at H
                                  exact absurd H (by simp)
                              · rw [if_neg c42] at H
                                exact absurd H (by simp)
                            · rw [if_neg c41] at H
                              exact absurd H (by simp)
                          · replace c40 := Bool.eq_false_iff.mpr c40
                            subst c40
                            have H1 : (if 0 ≤ (wrap64 (x5_1 - 1)) then (if (wrap64 (x5_1 - 1)) < (l0.length : Int) then (if ((rd_T25 l0 (wrap64 (x5_1 - 1))).f0) = 5 then (if 0 ≤ x6_1 then (if x6_1 < (t138.length : Int) then (if 0 ≤ x7_1 then (if x7_1 < (t135.length : Int) then (if ((rd_T43 t138 x6_1).f1) < ((rd_T43 t135 x7_1).f1) then (stickfullaw21_IntrinsicCuts.j2 kj10 l0 t135 t138 x6_1 x7_1 true) else (if ((rd_T43 t135 x7_1).f0) = ((rd_T43 t138 x6_1).f0) then (if x6_1 > 0 then (if 0 ≤ (wrap64 (x6_1 - 1)) then (if (wrap64 (x6_1 - 1)) < (t138.length : Int) then (stickfullaw21_IntrinsicCuts.j2 kj10 l0 t135 t138 x6_1 x7_1 (((rd_T43 t138 x6_1).f0) != ((rd_T43 t138 (wrap64 (x6_1 - 1))).f1))) else (none)) else (none)) else (stickfullaw21_IntrinsicCuts.j2 kj10 l0 t135 t138 x6_1 x7_1 false)) else (stickfullaw21_IntrinsicCuts.j2 kj10 l0 t135 t138 x6_1 x7_1 false))) else (none)) else (none)) else (none)) else (none)) else (stickfullaw21_IntrinsicCuts.j2 kj10 l0 t135 t138 x6_1 x7_1 true)) else (none)) else (none)) = some true := by rw [if_neg (show ¬ (false = true) by decide)] at H; exact H
                            clear H
                            have H := H1
                            clear H1
                            obtain ⟨ji55, hji55⟩ : ∃ j_ : Int, (wrap64 (x5_1 - 1)) = j_ := ⟨_, rfl⟩
                            replace H : (if 0 ≤ (ji55) then (if (ji55) < (l0.length : Int) then (if ((rd_T25 l0 (ji55)).f0) = 5 then (if 0 ≤ x6_1 then (if x6_1 < (t138.length : Int) then (if 0 ≤ x7_1 then (if x7_1 < (t135.length : Int) then (if ((rd_T43 t138 x6_1).f1) < ((rd_T43 t135 x7_1).f1) then (stickfullaw21_IntrinsicCuts.j2 kj10 l0 t135 t138 x6_1 x7_1 true) else (if ((rd_T43 t135 x7_1).f0) = ((rd_T43 t138 x6_1).f0) then (if x6_1 > 0 then (if 0 ≤ (wrap64 (x6_1 - 1)) then (if (wrap64 (x6_1 - 1)) < (t138.length : Int) then (stickfullaw21_IntrinsicCuts.j2 kj10 l0 t135 t138 x6_1 x7_1 (((rd_T43 t138 x6_1).f0) != ((rd_T43 t138 (wrap64 (x6_1 - 1))).f1))) else (none)) else (none)) else (stickfullaw21_IntrinsicCuts.j2 kj10 l0 t135 t138 x6_1 x7_1 false)) else (stickfullaw21_IntrinsicCuts.j2 kj10 l0 t135 t138 x6_1 x7_1 false))) else (none)) else (none)) else (none)) else (none)) else (stickfullaw21_IntrinsicCuts.j2 kj10 l0 t135 t138 x6_1 x7_1 true)) else (none)) else (none)) = some true := by first | (rw [hji55] at H; exact H) | (simp only [hji55] at H ⊢; exact H)
                            have hji55w : (IntKind.i64.wrap (x5_1 - 1)) = ji55 := (i64_w _).trans hji55
                            by_cases c56 : 0 ≤ (ji55)
                            · rw [if_pos c56] at H
                              have c56b0 : decide (0 ≤ (ji55)) = true := decide_eq_true c56
                              clear c56
                              by_cases c57 : (ji55) < (l0.length : Int)
                              · rw [if_pos c57] at H
                                have c57b0 : decide ((ji55) < (l0.length : Int)) = true := decide_eq_true c57
                                clear c57
                                by_cases c58 : ((rd_T25 l0 (ji55)).f0) = 5
                                · rw [if_pos c58] at H
                                  have c58b0 : (((rd_T25 l0 (ji55)).f0) == 5) = true := beq_iff_eq.mpr c58
                                  have c58b1 : (((rd_T25 l0 (ji55)).f0) != 5) = false := bne_eq_false_iff_eq.mpr c58
                                  clear c58
                                  by_cases c59 : 0 ≤ x6_1
                                  · rw [if_pos c59] at H
                                    have c59b0 : decide (0 ≤ x6_1) = true := decide_eq_true c59
                                    clear c59
                                    by_cases c60 : x6_1 < (t138.length : Int)
                                    · rw [if_pos c60] at H
                                      have c60b0 : decide (x6_1 < (t138.length : Int)) = true := decide_eq_true c60
                                      clear c60
                                      by_cases c61 : 0 ≤ x7_1
                                      · rw [if_pos c61] at H
                                        have c61b0 : decide (0 ≤ x7_1) = true := decide_eq_true c61
                                        clear c61
                                        by_cases c62 : x7_1 < (t135.length : Int)
                                        · rw [if_pos c62] at H
                                          have c62b0 : decide (x7_1 < (t135.length : Int)) = true := decide_eq_true c62
                                          clear c62
                                          by_cases c63 : ((rd_T43 t138 x6_1).f1) < ((rd_T43 t135 x7_1).f1)
                                          · rw [if_pos c63] at H
                                            have c63b0 : decide (((rd_T43 t138 x6_1).f1) < ((rd_T43 t135 x7_1).f1)) = true := decide_eq_true c63
                                            clear c63
                                            first | exact (stickfullaw21_IntrinsicCuts.j1_no _ _ _ _ _ _ _ H).elim | exact (stickfullaw21_IntrinsicCuts.j2_no _ _ _ _ _ _ H).elim
                                          · rw [if_neg c63] at H
                                            have c63b0 : decide (((rd_T43 t138 x6_1).f1) < ((rd_T43 t135 x7_1).f1)) = false := decide_eq_false c63
                                            clear c63
                                            by_cases c65 : ((rd_T43 t135 x7_1).f0) = ((rd_T43 t138 x6_1).f0)
                                            · rw [if_pos c65] at H
                                              have c65b0 : (((rd_T43 t135 x7_1).f0) == ((rd_T43 t138 x6_1).f0)) = true := beq_iff_eq.mpr c65
                                              have c65b1 : (((rd_T43 t135 x7_1).f0) != ((rd_T43 t138 x6_1).f0)) = false := bne_eq_false_iff_eq.mpr c65
                                              clear c65
                                              by_cases c66 : x6_1 > 0
                                              · rw [if_pos c66] at H
                                                have c66b0 : decide (0 < x6_1) = true := decide_eq_true c66
                                                clear c66
                                                obtain ⟨ji67, hji67⟩ : ∃ j_ : Int, (wrap64 (x6_1 - 1)) = j_ := ⟨_, rfl⟩
                                                replace H : (if 0 ≤ (ji67) then (if (ji67) < (t138.length : Int) then (stickfullaw21_IntrinsicCuts.j2 kj10 l0 t135 t138 x6_1 x7_1 (((rd_T43 t138 x6_1).f0) != ((rd_T43 t138 (ji67)).f1))) else (none)) else (none)) = some true := by first | (rw [hji67] at H; exact H) | (simp only [hji67] at H ⊢; exact H)
                                                have hji67w : (IntKind.i64.wrap (x6_1 - 1)) = ji67 := (i64_w _).trans hji67
                                                by_cases c68 : 0 ≤ (ji67)
                                                · rw [if_pos c68] at H
                                                  have c68b0 : decide (0 ≤ (ji67)) = true := decide_eq_true c68
                                                  clear c68
                                                  by_cases c69 : (ji67) < (t138.length : Int)
                                                  · rw [if_pos c69] at H
                                                    have c69b0 : decide ((ji67) < (t138.length : Int)) = true := decide_eq_true c69
                                                    clear c69
                                                    have H' := Aside0.mk H
                                                    clear H
                                                    have p144 : 0 ≤ (x5_1 : Int) := of_decide_eq_true (by first | (with_reducible assumption) | assumption)
                                                    have q144 : x5_1 < (l0.length : Int) := of_decide_eq_true (by first | (with_reducible assumption) | assumption)
                                                    obtain ⟨ad144, e144, hx144_0, hx144_1, hx144_2, hx144_3, hx144_4, hx144_5⟩ := at_T25 HR0.out x5_1 p144 q144
                                                    (try rw [← Nbq23.out] at hx144_4)
                                                    (try rw [← Nbq39.out] at hx144_4)
                                                    (try rw [← Nbq23.out] at hx144_5)
                                                    (try rw [← Nbq39.out] at hx144_5)
                                                    cases e144
                                                    replace hx144_0 := (HB.out.cell (World.block_lt_of_cell? w _ hx144_0)).trans hx144_0
                                                    replace hx144_1 := (HB.out.cell (World.block_lt_of_cell? w _ hx144_1)).trans hx144_1
                                                    replace hx144_2 := (HB.out.cell (World.block_lt_of_cell? w _ hx144_2)).trans hx144_2
                                                    replace hx144_3 := (HB.out.cell (World.block_lt_of_cell? w _ hx144_3)).trans hx144_3
                                                    replace hx144_4 := (HB.out.cell (World.block_lt_of_cell? w _ hx144_4)).trans hx144_4
                                                    replace hx144_5 := (HB.out.cell (World.block_lt_of_cell? w _ hx144_5)).trans hx144_5
                                                    replace p144 := eq_true p144
                                                    replace q144 := eq_true q144
                                                    have p151 : 0 ≤ (x5_1 : Int) := of_decide_eq_true (by first | (with_reducible assumption) | assumption)
                                                    have q151 : x5_1 < (l0.length : Int) := of_decide_eq_true (by first | (with_reducible assumption) | assumption)
                                                    obtain ⟨ad151, e151, hx151_0, hx151_1, hx151_2, hx151_3, hx151_4, hx151_5⟩ := at_T25 HR0.out x5_1 p151 q151
                                                    (try rw [← Nbq23.out] at hx151_4)
                                                    (try rw [← Nbq39.out] at hx151_4)
                                                    (try rw [← Nbq23.out] at hx151_5)
                                                    (try rw [← Nbq39.out] at hx151_5)
                                                    obtain rfl : ad144 = ad151 := (by injection e151)
                                                    replace hx151_0 := (HB.out.cell (World.block_lt_of_cell? w _ hx151_0)).trans hx151_0
                                                    replace hx151_1 := (HB.out.cell (World.block_lt_of_cell? w _ hx151_1)).trans hx151_1
                                                    replace hx151_2 := (HB.out.cell (World.block_lt_of_cell? w _ hx151_2)).trans hx151_2
                                                    replace hx151_3 := (HB.out.cell (World.block_lt_of_cell? w _ hx151_3)).trans hx151_3
                                                    replace hx151_4 := (HB.out.cell (World.block_lt_of_cell? w _ hx151_4)).trans hx151_4
                                                    replace hx151_5 := (HB.out.cell (World.block_lt_of_cell? w _ hx151_5)).trans hx151_5
                                                    replace p151 := eq_true p151
                                                    replace q151 := eq_true q151
                                                    have p158 : 0 ≤ ((ji55) : Int) := of_decide_eq_true (by first | (with_reducible assumption) | assumption)
                                                    have q158 : (ji55) < (l0.length : Int) := of_decide_eq_true (by first | (with_reducible assumption) | assumption)
                                                    obtain ⟨ad158, e158, hx158_0, hx158_1, hx158_2, hx158_3, hx158_4, hx158_5⟩ := at_T25 HR0.out (ji55) p158 q158
                                                    (try rw [← Nbq23.out] at hx158_4)
                                                    (try rw [← Nbq39.out] at hx158_4)
                                                    (try rw [← Nbq23.out] at hx158_5)
                                                    (try rw [← Nbq39.out] at hx158_5)
                                                    obtain rfl : ad144 = ad158 := (by injection e158)
                                                    replace hx158_0 := (HB.out.cell (World.block_lt_of_cell? w _ hx158_0)).trans hx158_0
                                                    replace hx158_1 := (HB.out.cell (World.block_lt_of_cell? w _ hx158_1)).trans hx158_1
                                                    replace hx158_2 := (HB.out.cell (World.block_lt_of_cell? w _ hx158_2)).trans hx158_2
                                                    replace hx158_3 := (HB.out.cell (World.block_lt_of_cell? w _ hx158_3)).trans hx158_3
                                                    replace hx158_4 := (HB.out.cell (World.block_lt_of_cell? w _ hx158_4)).trans hx158_4
                                                    replace hx158_5 := (HB.out.cell (World.block_lt_of_cell? w _ hx158_5)).trans hx158_5
                                                    replace p158 := eq_true p158
                                                    replace q158 := eq_true q158
                                                    obtain ⟨Ao70, co70, eo70⟩ := Kd.R_slice HO_4.out
                                                    subst eo70
                                                    have p159 : 0 ≤ (x6_1 : Int) := of_decide_eq_true (by first | (with_reducible assumption) | assumption)
                                                    have q159 : x6_1 < (t138.length : Int) := of_decide_eq_true (by first | (with_reducible assumption) | assumption)
                                                    obtain ⟨ad159, e159, hx159_0, hx159_1⟩ := at_T43 (Kd.R_reads' HO_4.out).2.2 x6_1 p159 q159
                                                    cases e159
                                                    replace p159 := eq_true p159
                                                    replace q159 := eq_true q159
                                                    have p160 : 0 ≤ (x7_1 : Int) := of_decide_eq_true (by first | (with_reducible assumption) | assumption)
                                                    have q160 : x7_1 < (t135.length : Int) := of_decide_eq_true (by first | (with_reducible assumption) | assumption)
                                                    obtain ⟨ad160, e160, hx160_0, hx160_1⟩ := at_T43 (Kd.R_reads' HO_3.out).2.2 x7_1 p160 q160
                                                    cases e160
                                                    replace p160 := eq_true p160
                                                    replace q160 := eq_true q160
                                                    have p161 : 0 ≤ (x7_1 : Int) := of_decide_eq_true (by first | (with_reducible assumption) | assumption)
                                                    have q161 : x7_1 < (t135.length : Int) := of_decide_eq_true (by first | (with_reducible assumption) | assumption)
                                                    obtain ⟨ad161, e161, hx161_0, hx161_1⟩ := at_T43 (Kd.R_reads' HO_3.out).2.2 x7_1 p161 q161
                                                    obtain rfl : ad160 = ad161 := (by injection e161)
                                                    replace p161 := eq_true p161
                                                    replace q161 := eq_true q161
                                                    have p162 : 0 ≤ (x6_1 : Int) := of_decide_eq_true (by first | (with_reducible assumption) | assumption)
                                                    have q162 : x6_1 < (t138.length : Int) := of_decide_eq_true (by first | (with_reducible assumption) | assumption)
                                                    obtain ⟨ad162, e162, hx162_0, hx162_1⟩ := at_T43 (Kd.R_reads' HO_4.out).2.2 x6_1 p162 q162
                                                    obtain rfl : ad159 = ad162 := (by injection e162)
                                                    replace p162 := eq_true p162
                                                    replace q162 := eq_true q162
                                                    have p163 : 0 ≤ (x6_1 : Int) := of_decide_eq_true (by first | (with_reducible assumption) | assumption)
                                                    have q163 : x6_1 < (t138.length : Int) := of_decide_eq_true (by first | (with_reducible assumption) | assumption)
                                                    obtain ⟨ad163, e163, hx163_0, hx163_1⟩ := at_T43 (Kd.R_reads' HO_4.out).2.2 x6_1 p163 q163
                                                    obtain rfl : ad159 = ad163 := (by injection e163)
                                                    replace p163 := eq_true p163
                                                    replace q163 := eq_true q163
                                                    have p164 : 0 ≤ ((ji67) : Int) := of_decide_eq_true (by first | (with_reducible assumption) | assumption)
                                                    have q164 : (ji67) < (t138.length : Int) := of_decide_eq_true (by first | (with_reducible assumption) | assumption)
                                                    obtain ⟨ad164, e164, hx164_0, hx164_1⟩ := at_T43 (Kd.R_reads' HO_4.out).2.2 (ji67) p164 q164
                                                    obtain rfl : ad159 = ad164 := (by injection e164)
                                                    replace p164 := eq_true p164
                                                    replace q164 := eq_true q164
                                                    go_wp2
                                                    repeat ((first | (refine stickfullaw21_IntrinsicCuts_quiet (by kernel_rfl) (by kernel_rfl) (by kernel_rfl) ?_; (try dsimp only [List.append]); (repeat (go_big_quiet_step (fail))); refine wpQuiet_nil ?_; intro _ hw'; obtain ⟨nq, hw''⟩ := hw'; subst hw'') | (refine stickfullaw21_IntrinsicCuts_quiet (by kernel_rfl) (by kernel_rfl) (by kernel_rfl) ?_; (try dsimp only [List.append]); (repeat (quiet_step (fail))); refine wpQuiet_nil ?_; intro _ hw'; obtain ⟨nq, hw''⟩ := hw'; subst hw'')); try go_wp2)
                                                    go_meet
                                                    case rel => exact ⟨_, ((((rd_T43 t138 x6_1).f0) != ((rd_T43 t138 (ji67)).f1))), (by first | rfl | (simp; done) | (simp only [← hji67] <;> (first | rfl | simp)) | (simp [*]; done)), H', ⟨by have := HK1.out; have := HJ10.out; first | omega | exact Nat.le_refl _⟩, ⟨by (with_reducible repeat (first | apply Kd.R_alloc | apply Kd.R_drewN | apply Kd.R_drew)); exact HO_3.out⟩, ⟨by (with_reducible repeat (first | apply Kd.R_alloc | apply Kd.R_drewN | apply Kd.R_drew)); exact HO_4.out⟩, ⟨by repeat (first | (with_reducible first | exact HB.out | apply below_alloc | apply pw_below_drewN | apply below_drew1) | exact HB.out)⟩⟩
                                                  · rw [if_neg c69] at H
                                                    exact absurd H (by simp)
                                                · rw [if_neg c68] at H
                                                  exact absurd H (by simp)
                                              · rw [if_neg c66] at H
                                                have c66b0 : decide (0 < x6_1) = false := decide_eq_false c66
                                                clear c66
                                                have H' := Aside0.mk H
                                                clear H
                                                have p144 : 0 ≤ (x5_1 : Int) := of_decide_eq_true (by first | (with_reducible assumption) | assumption)
                                                have q144 : x5_1 < (l0.length : Int) := of_decide_eq_true (by first | (with_reducible assumption) | assumption)
                                                obtain ⟨ad144, e144, hx144_0, hx144_1, hx144_2, hx144_3, hx144_4, hx144_5⟩ := at_T25 HR0.out x5_1 p144 q144
                                                (try rw [← Nbq23.out] at hx144_4)
                                                (try rw [← Nbq39.out] at hx144_4)
                                                (try rw [← Nbq23.out] at hx144_5)
                                                (try rw [← Nbq39.out] at hx144_5)
                                                cases e144
                                                replace hx144_0 := (HB.out.cell (World.block_lt_of_cell? w _ hx144_0)).trans hx144_0
                                                replace hx144_1 := (HB.out.cell (World.block_lt_of_cell? w _ hx144_1)).trans hx144_1
                                                replace hx144_2 := (HB.out.cell (World.block_lt_of_cell? w _ hx144_2)).trans hx144_2
                                                replace hx144_3 := (HB.out.cell (World.block_lt_of_cell? w _ hx144_3)).trans hx144_3
                                                replace hx144_4 := (HB.out.cell (World.block_lt_of_cell? w _ hx144_4)).trans hx144_4
                                                replace hx144_5 := (HB.out.cell (World.block_lt_of_cell? w _ hx144_5)).trans hx144_5
                                                replace p144 := eq_true p144
                                                replace q144 := eq_true q144
                                                have p151 : 0 ≤ (x5_1 : Int) := of_decide_eq_true (by first | (with_reducible assumption) | assumption)
                                                have q151 : x5_1 < (l0.length : Int) := of_decide_eq_true (by first | (with_reducible assumption) | assumption)
                                                obtain ⟨ad151, e151, hx151_0, hx151_1, hx151_2, hx151_3, hx151_4, hx151_5⟩ := at_T25 HR0.out x5_1 p151 q151
                                                (try rw [← Nbq23.out] at hx151_4)
                                                (try rw [← Nbq39.out] at hx151_4)
                                                (try rw [← Nbq23.out] at hx151_5)
                                                (try rw [← Nbq39.out] at hx151_5)
                                                obtain rfl : ad144 = ad151 := (by injection e151)
                                                replace hx151_0 := (HB.out.cell (World.block_lt_of_cell? w _ hx151_0)).trans hx151_0
                                                replace hx151_1 := (HB.out.cell (World.block_lt_of_cell? w _ hx151_1)).trans hx151_1
                                                replace hx151_2 := (HB.out.cell (World.block_lt_of_cell? w _ hx151_2)).trans hx151_2
                                                replace hx151_3 := (HB.out.cell (World.block_lt_of_cell? w _ hx151_3)).trans hx151_3
                                                replace hx151_4 := (HB.out.cell (World.block_lt_of_cell? w _ hx151_4)).trans hx151_4
                                                replace hx151_5 := (HB.out.cell (World.block_lt_of_cell? w _ hx151_5)).trans hx151_5
                                                replace p151 := eq_true p151
                                                replace q151 := eq_true q151
                                                have p158 : 0 ≤ ((ji55) : Int) := of_decide_eq_true (by first | (with_reducible assumption) | assumption)
                                                have q158 : (ji55) < (l0.length : Int) := of_decide_eq_true (by first | (with_reducible assumption) | assumption)
                                                obtain ⟨ad158, e158, hx158_0, hx158_1, hx158_2, hx158_3, hx158_4, hx158_5⟩ := at_T25 HR0.out (ji55) p158 q158
                                                (try rw [← Nbq23.out] at hx158_4)
                                                (try rw [← Nbq39.out] at hx158_4)
                                                (try rw [← Nbq23.out] at hx158_5)
                                                (try rw [← Nbq39.out] at hx158_5)
                                                obtain rfl : ad144 = ad158 := (by injection e158)
                                                replace hx158_0 := (HB.out.cell (World.block_lt_of_cell? w _ hx158_0)).trans hx158_0
                                                replace hx158_1 := (HB.out.cell (World.block_lt_of_cell? w _ hx158_1)).trans hx158_1
                                                replace hx158_2 := (HB.out.cell (World.block_lt_of_cell? w _ hx158_2)).trans hx158_2
                                                replace hx158_3 := (HB.out.cell (World.block_lt_of_cell? w _ hx158_3)).trans hx158_3
                                                replace hx158_4 := (HB.out.cell (World.block_lt_of_cell? w _ hx158_4)).trans hx158_4
                                                replace hx158_5 := (HB.out.cell (World.block_lt_of_cell? w _ hx158_5)).trans hx158_5
                                                replace p158 := eq_true p158
                                                replace q158 := eq_true q158
                                                obtain ⟨Ao71, co71, eo71⟩ := Kd.R_slice HO_4.out
                                                subst eo71
                                                have p159 : 0 ≤ (x6_1 : Int) := of_decide_eq_true (by first | (with_reducible assumption) | assumption)
                                                have q159 : x6_1 < (t138.length : Int) := of_decide_eq_true (by first | (with_reducible assumption) | assumption)
                                                obtain ⟨ad159, e159, hx159_0, hx159_1⟩ := at_T43 (Kd.R_reads' HO_4.out).2.2 x6_1 p159 q159
                                                cases e159
                                                replace p159 := eq_true p159
                                                replace q159 := eq_true q159
                                                have p160 : 0 ≤ (x7_1 : Int) := of_decide_eq_true (by first | (with_reducible assumption) | assumption)
                                                have q160 : x7_1 < (t135.length : Int) := of_decide_eq_true (by first | (with_reducible assumption) | assumption)
                                                obtain ⟨ad160, e160, hx160_0, hx160_1⟩ := at_T43 (Kd.R_reads' HO_3.out).2.2 x7_1 p160 q160
                                                cases e160
                                                replace p160 := eq_true p160
                                                replace q160 := eq_true q160
                                                have p161 : 0 ≤ (x7_1 : Int) := of_decide_eq_true (by first | (with_reducible assumption) | assumption)
                                                have q161 : x7_1 < (t135.length : Int) := of_decide_eq_true (by first | (with_reducible assumption) | assumption)
                                                obtain ⟨ad161, e161, hx161_0, hx161_1⟩ := at_T43 (Kd.R_reads' HO_3.out).2.2 x7_1 p161 q161
                                                obtain rfl : ad160 = ad161 := (by injection e161)
                                                replace p161 := eq_true p161
                                                replace q161 := eq_true q161
                                                have p162 : 0 ≤ (x6_1 : Int) := of_decide_eq_true (by first | (with_reducible assumption) | assumption)
                                                have q162 : x6_1 < (t138.length : Int) := of_decide_eq_true (by first | (with_reducible assumption) | assumption)
                                                obtain ⟨ad162, e162, hx162_0, hx162_1⟩ := at_T43 (Kd.R_reads' HO_4.out).2.2 x6_1 p162 q162
                                                obtain rfl : ad159 = ad162 := (by injection e162)
                                                replace p162 := eq_true p162
                                                replace q162 := eq_true q162
                                                go_wp2
                                                repeat ((first | (refine stickfullaw21_IntrinsicCuts_quiet (by kernel_rfl) (by kernel_rfl) (by kernel_rfl) ?_; (try dsimp only [List.append]); (repeat (go_big_quiet_step (fail))); refine wpQuiet_nil ?_; intro _ hw'; obtain ⟨nq, hw''⟩ := hw'; subst hw'') | (refine stickfullaw21_IntrinsicCuts_quiet (by kernel_rfl) (by kernel_rfl) (by kernel_rfl) ?_; (try dsimp only [List.append]); (repeat (quiet_step (fail))); refine wpQuiet_nil ?_; intro _ hw'; obtain ⟨nq, hw''⟩ := hw'; subst hw'')); try go_wp2)
                                                go_meet
                                                case rel => exact ⟨_, (false), (by first | rfl | (simp; done) | (simp [*]; done)), H', ⟨by have := HK1.out; have := HJ10.out; first | omega | exact Nat.le_refl _⟩, ⟨by (with_reducible repeat (first | apply Kd.R_alloc | apply Kd.R_drewN | apply Kd.R_drew)); exact HO_3.out⟩, ⟨by (with_reducible repeat (first | apply Kd.R_alloc | apply Kd.R_drewN | apply Kd.R_drew)); exact HO_4.out⟩, ⟨by repeat (first | (with_reducible first | exact HB.out | apply below_alloc | apply pw_below_drewN | apply below_drew1) | exact HB.out)⟩⟩
                                            · rw [if_neg c65] at H
                                              have c65b0 : (((rd_T43 t135 x7_1).f0) == ((rd_T43 t138 x6_1).f0)) = false := beq_eq_false_iff_ne.mpr c65
                                              have c65b1 : (((rd_T43 t135 x7_1).f0) != ((rd_T43 t138 x6_1).f0)) = true := bne_iff_ne.mpr c65
                                              have H' := Aside0.mk H
                                              clear H
                                              have p144 : 0 ≤ (x5_1 : Int) := of_decide_eq_true (by first | (with_reducible assumption) | assumption)
                                              have q144 : x5_1 < (l0.length : Int) := of_decide_eq_true (by first | (with_reducible assumption) | assumption)
                                              obtain ⟨ad144, e144, hx144_0, hx144_1, hx144_2, hx144_3, hx144_4, hx144_5⟩ := at_T25 HR0.out x5_1 p144 q144
                                              (try rw [← Nbq23.out] at hx144_4)
                                              (try rw [← Nbq39.out] at hx144_4)
                                              (try rw [← Nbq23.out] at hx144_5)
                                              (try rw [← Nbq39.out] at hx144_5)
                                              cases e144
                                              replace hx144_0 := (HB.out.cell (World.block_lt_of_cell? w _ hx144_0)).trans hx144_0
                                              replace hx144_1 := (HB.out.cell (World.block_lt_of_cell? w _ hx144_1)).trans hx144_1
                                              replace hx144_2 := (HB.out.cell (World.block_lt_of_cell? w _ hx144_2)).trans hx144_2
                                              replace hx144_3 := (HB.out.cell (World.block_lt_of_cell? w _ hx144_3)).trans hx144_3
                                              replace hx144_4 := (HB.out.cell (World.block_lt_of_cell? w _ hx144_4)).trans hx144_4
                                              replace hx144_5 := (HB.out.cell (World.block_lt_of_cell? w _ hx144_5)).trans hx144_5
                                              replace p144 := eq_true p144
                                              replace q144 := eq_true q144
                                              have p151 : 0 ≤ (x5_1 : Int) := of_decide_eq_true (by first | (with_reducible assumption) | assumption)
                                              have q151 : x5_1 < (l0.length : Int) := of_decide_eq_true (by first | (with_reducible assumption) | assumption)
                                              obtain ⟨ad151, e151, hx151_0, hx151_1, hx151_2, hx151_3, hx151_4, hx151_5⟩ := at_T25 HR0.out x5_1 p151 q151
                                              (try rw [← Nbq23.out] at hx151_4)
                                              (try rw [← Nbq39.out] at hx151_4)
                                              (try rw [← Nbq23.out] at hx151_5)
                                              (try rw [← Nbq39.out] at hx151_5)
                                              obtain rfl : ad144 = ad151 := (by injection e151)
                                              replace hx151_0 := (HB.out.cell (World.block_lt_of_cell? w _ hx151_0)).trans hx151_0
                                              replace hx151_1 := (HB.out.cell (World.block_lt_of_cell? w _ hx151_1)).trans hx151_1
                                              replace hx151_2 := (HB.out.cell (World.block_lt_of_cell? w _ hx151_2)).trans hx151_2
                                              replace hx151_3 := (HB.out.cell (World.block_lt_of_cell? w _ hx151_3)).trans hx151_3
                                              replace hx151_4 := (HB.out.cell (World.block_lt_of_cell? w _ hx151_4)).trans hx151_4
                                              replace hx151_5 := (HB.out.cell (World.block_lt_of_cell? w _ hx151_5)).trans hx151_5
                                              replace p151 := eq_true p151
                                              replace q151 := eq_true q151
                                              have p158 : 0 ≤ ((ji55) : Int) := of_decide_eq_true (by first | (with_reducible assumption) | assumption)
                                              have q158 : (ji55) < (l0.length : Int) := of_decide_eq_true (by first | (with_reducible assumption) | assumption)
                                              obtain ⟨ad158, e158, hx158_0, hx158_1, hx158_2, hx158_3, hx158_4, hx158_5⟩ := at_T25 HR0.out (ji55) p158 q158
                                              (try rw [← Nbq23.out] at hx158_4)
                                              (try rw [← Nbq39.out] at hx158_4)
                                              (try rw [← Nbq23.out] at hx158_5)
                                              (try rw [← Nbq39.out] at hx158_5)
                                              obtain rfl : ad144 = ad158 := (by injection e158)
                                              replace hx158_0 := (HB.out.cell (World.block_lt_of_cell? w _ hx158_0)).trans hx158_0
                                              replace hx158_1 := (HB.out.cell (World.block_lt_of_cell? w _ hx158_1)).trans hx158_1
                                              replace hx158_2 := (HB.out.cell (World.block_lt_of_cell? w _ hx158_2)).trans hx158_2
                                              replace hx158_3 := (HB.out.cell (World.block_lt_of_cell? w _ hx158_3)).trans hx158_3
                                              replace hx158_4 := (HB.out.cell (World.block_lt_of_cell? w _ hx158_4)).trans hx158_4
                                              replace hx158_5 := (HB.out.cell (World.block_lt_of_cell? w _ hx158_5)).trans hx158_5
                                              replace p158 := eq_true p158
                                              replace q158 := eq_true q158
                                              obtain ⟨Ao72, co72, eo72⟩ := Kd.R_slice HO_4.out
                                              subst eo72
                                              have p159 : 0 ≤ (x6_1 : Int) := of_decide_eq_true (by first | (with_reducible assumption) | assumption)
                                              have q159 : x6_1 < (t138.length : Int) := of_decide_eq_true (by first | (with_reducible assumption) | assumption)
                                              obtain ⟨ad159, e159, hx159_0, hx159_1⟩ := at_T43 (Kd.R_reads' HO_4.out).2.2 x6_1 p159 q159
                                              cases e159
                                              replace p159 := eq_true p159
                                              replace q159 := eq_true q159
                                              have p160 : 0 ≤ (x7_1 : Int) := of_decide_eq_true (by first | (with_reducible assumption) | assumption)
                                              have q160 : x7_1 < (t135.length : Int) := of_decide_eq_true (by first | (with_reducible assumption) | assumption)
                                              obtain ⟨ad160, e160, hx160_0, hx160_1⟩ := at_T43 (Kd.R_reads' HO_3.out).2.2 x7_1 p160 q160
                                              cases e160
                                              replace p160 := eq_true p160
                                              replace q160 := eq_true q160
                                              have p161 : 0 ≤ (x7_1 : Int) := of_decide_eq_true (by first | (with_reducible assumption) | assumption)
                                              have q161 : x7_1 < (t135.length : Int) := of_decide_eq_true (by first | (with_reducible assumption) | assumption)
                                              obtain ⟨ad161, e161, hx161_0, hx161_1⟩ := at_T43 (Kd.R_reads' HO_3.out).2.2 x7_1 p161 q161
                                              obtain rfl : ad160 = ad161 := (by injection e161)
                                              replace p161 := eq_true p161
                                              replace q161 := eq_true q161
                                              have p162 : 0 ≤ (x6_1 : Int) := of_decide_eq_true (by first | (with_reducible assumption) | assumption)
                                              have q162 : x6_1 < (t138.length : Int) := of_decide_eq_true (by first | (with_reducible assumption) | assumption)
                                              obtain ⟨ad162, e162, hx162_0, hx162_1⟩ := at_T43 (Kd.R_reads' HO_4.out).2.2 x6_1 p162 q162
                                              obtain rfl : ad159 = ad162 := (by injection e162)
                                              replace p162 := eq_true p162
                                              replace q162 := eq_true q162
                                              go_wp2
                                              repeat ((first | (refine stickfullaw21_IntrinsicCuts_quiet (by kernel_rfl) (by kernel_rfl) (by kernel_rfl) ?_; (try dsimp only [List.append]); (repeat (go_big_quiet_step (fail))); refine wpQuiet_nil ?_; intro _ hw'; obtain ⟨nq, hw''⟩ := hw'; subst hw'') | (refine stickfullaw21_IntrinsicCuts_quiet (by kernel_rfl) (by kernel_rfl) (by kernel_rfl) ?_; (try dsimp only [List.append]); (repeat (quiet_step (fail))); refine wpQuiet_nil ?_; intro _ hw'; obtain ⟨nq, hw''⟩ := hw'; subst hw'')); try go_wp2)
                                              go_meet
                                              case rel => exact ⟨_, (false), (by first | rfl | (simp; done) | (simp [*]; done)), H', ⟨by have := HK1.out; have := HJ10.out; first | omega | exact Nat.le_refl _⟩, ⟨by (with_reducible repeat (first | apply Kd.R_alloc | apply Kd.R_drewN | apply Kd.R_drew)); exact HO_3.out⟩, ⟨by (with_reducible repeat (first | apply Kd.R_alloc | apply Kd.R_drewN | apply Kd.R_drew)); exact HO_4.out⟩, ⟨by repeat (first | (with_reducible first | exact HB.out | apply below_alloc | apply pw_below_drewN | apply below_drew1) | exact HB.out)⟩⟩
                                        · rw [if_neg c62] at H
                                          exact absurd H (by simp)
                                      · rw [if_neg c61] at H
                                        exact absurd H (by simp)
                                    · rw [if_neg c60] at H
                                      exact absurd H (by simp)
                                  · rw [if_neg c59] at H
                                    exact absurd H (by simp)
                                · rw [if_neg c58] at H
                                  have c58b0 : (((rd_T25 l0 (ji55)).f0) == 5) = false := beq_eq_false_iff_ne.mpr c58
                                  have c58b1 : (((rd_T25 l0 (ji55)).f0) != 5) = true := bne_iff_ne.mpr c58
                                  first | exact (stickfullaw21_IntrinsicCuts.j1_no _ _ _ _ _ _ _ H).elim | exact (stickfullaw21_IntrinsicCuts.j2_no _ _ _ _ _ _ H).elim
                              · rw [if_neg c57] at H
                                exact absurd H (by simp)
                            · rw [if_neg c56] at H
                              exact absurd H (by simp)
                      · rw [if_neg c22] at H
                        exact absurd H (by simp)
                    · rw [if_neg c21] at H
                      exact absurd H (by simp)
                  · rw [if_neg c20] at H
                    have c20b0 : decide (0 < x5_1) = false := decide_eq_false c20
                    clear c20
                    (first | rw [c20b0] | (simp only [i64_w, i32_w]; rw [c20b0]) | skip)
                    by_cases c73 : 0 ≤ x6_1
                    · rw [if_pos c73] at H
                      have c73b0 : decide (0 ≤ x6_1) = true := decide_eq_true c73
                      clear c73
                      by_cases c74 : x6_1 < (t138.length : Int)
                      · rw [if_pos c74] at H
                        have c74b0 : decide (x6_1 < (t138.length : Int)) = true := decide_eq_true c74
                        clear c74
                        by_cases c75 : 0 ≤ x7_1
                        · rw [if_pos c75] at H
                          have c75b0 : decide (0 ≤ x7_1) = true := decide_eq_true c75
                          clear c75
                          by_cases c76 : x7_1 < (t135.length : Int)
                          · rw [if_pos c76] at H
                            have c76b0 : decide (x7_1 < (t135.length : Int)) = true := decide_eq_true c76
                            clear c76
                            by_cases c77 : ((rd_T43 t138 x6_1).f1) < ((rd_T43 t135 x7_1).f1)
                            · rw [if_pos c77] at H
                              have c77b0 : decide (((rd_T43 t138 x6_1).f1) < ((rd_T43 t135 x7_1).f1)) = true := decide_eq_true c77
                              clear c77
                              first | exact (stickfullaw21_IntrinsicCuts.j1_no _ _ _ _ _ _ _ H).elim | exact (stickfullaw21_IntrinsicCuts.j2_no _ _ _ _ _ _ H).elim
                            · rw [if_neg c77] at H
                              have c77b0 : decide (((rd_T43 t138 x6_1).f1) < ((rd_T43 t135 x7_1).f1)) = false := decide_eq_false c77
                              clear c77
                              by_cases c79 : ((rd_T43 t135 x7_1).f0) = ((rd_T43 t138 x6_1).f0)
                              · rw [if_pos c79] at H
                                have c79b0 : (((rd_T43 t135 x7_1).f0) == ((rd_T43 t138 x6_1).f0)) = true := beq_iff_eq.mpr c79
                                have c79b1 : (((rd_T43 t135 x7_1).f0) != ((rd_T43 t138 x6_1).f0)) = false := bne_eq_false_iff_eq.mpr c79
                                clear c79
                                by_cases c80 : x6_1 > 0
                                · rw [if_pos c80] at H
                                  have c80b0 : decide (0 < x6_1) = true := decide_eq_true c80
                                  clear c80
                                  obtain ⟨ji81, hji81⟩ : ∃ j_ : Int, (wrap64 (x6_1 - 1)) = j_ := ⟨_, rfl⟩
                                  replace H : (if 0 ≤ (ji81) then (if (ji81) < (t138.length : Int) then (stickfullaw21_IntrinsicCuts.j2 kj10 l0 t135 t138 x6_1 x7_1 (((rd_T43 t138 x6_1).f0) != ((rd_T43 t138 (ji81)).f1))) else (none)) else (none)) = some true := by first | (rw [hji81] at H; exact H) | (simp only [hji81] at H ⊢; exact H)
                                  have hji81w : (IntKind.i64.wrap (x6_1 - 1)) = ji81 := (i64_w _).trans hji81
                                  by_cases c82 : 0 ≤ (ji81)
                                  · rw [if_pos c82] at H
                                    have c82b0 : decide (0 ≤ (ji81)) = true := decide_eq_true c82
                                    clear c82
                                    by_cases c83 : (ji81) < (t138.length : Int)
                                    · rw [if_pos c83] at H
                                      have c83b0 : decide ((ji81) < (t138.length : Int)) = true := decide_eq_true c83
                                      clear c83
                                      have H' := Aside0.mk H
                                      clear H
                                      obtain ⟨Ao84, co84, eo84⟩ := Kd.R_slice HO_4.out
                                      subst eo84
                                      have p165 : 0 ≤ (x6_1 : Int) := of_decide_eq_true (by first | (with_reducible assumption) | assumption)
                                      have q165 : x6_1 < (t138.length : Int) := of_decide_eq_true (by first | (with_reducible assumption) | assumption)
                                      obtain ⟨ad165, e165, hx165_0, hx165_1⟩ := at_T43 (Kd.R_reads' HO_4.out).2.2 x6_1 p165 q165
                                      cases e165
                                      replace p165 := eq_true p165
                                      replace q165 := eq_true q165
                                      have p166 : 0 ≤ (x7_1 : Int) := of_decide_eq_true (by first | (with_reducible assumption) | assumption)
                                      have q166 : x7_1 < (t135.length : Int) := of_decide_eq_true (by first | (with_reducible assumption) | assumption)
                                      obtain ⟨ad166, e166, hx166_0, hx166_1⟩ := at_T43 (Kd.R_reads' HO_3.out).2.2 x7_1 p166 q166
                                      cases e166
                                      replace p166 := eq_true p166
                                      replace q166 := eq_true q166
                                      have p167 : 0 ≤ (x7_1 : Int) := of_decide_eq_true (by first | (with_reducible assumption) | assumption)
                                      have q167 : x7_1 < (t135.length : Int) := of_decide_eq_true (by first | (with_reducible assumption) | assumption)
                                      obtain ⟨ad167, e167, hx167_0, hx167_1⟩ := at_T43 (Kd.R_reads' HO_3.out).2.2 x7_1 p167 q167
                                      obtain rfl : ad166 = ad167 := (by injection e167)
                                      replace p167 := eq_true p167
                                      replace q167 := eq_true q167
                                      have p168 : 0 ≤ (x6_1 : Int) := of_decide_eq_true (by first | (with_reducible assumption) | assumption)
                                      have q168 : x6_1 < (t138.length : Int) := of_decide_eq_true (by first | (with_reducible assumption) | assumption)
                                      obtain ⟨ad168, e168, hx168_0, hx168_1⟩ := at_T43 (Kd.R_reads' HO_4.out).2.2 x6_1 p168 q168
                                      obtain rfl : ad165 = ad168 := (by injection e168)
                                      replace p168 := eq_true p168
                                      replace q168 := eq_true q168
                                      have p169 : 0 ≤ (x6_1 : Int) := of_decide_eq_true (by first | (with_reducible assumption) | assumption)
                                      have q169 : x6_1 < (t138.length : Int) := of_decide_eq_true (by first | (with_reducible assumption) | assumption)
                                      obtain ⟨ad169, e169, hx169_0, hx169_1⟩ := at_T43 (Kd.R_reads' HO_4.out).2.2 x6_1 p169 q169
                                      obtain rfl : ad165 = ad169 := (by injection e169)
                                      replace p169 := eq_true p169
                                      replace q169 := eq_true q169
                                      have p170 : 0 ≤ ((ji81) : Int) := of_decide_eq_true (by first | (with_reducible assumption) | assumption)
                                      have q170 : (ji81) < (t138.length : Int) := of_decide_eq_true (by first | (with_reducible assumption) | assumption)
                                      obtain ⟨ad170, e170, hx170_0, hx170_1⟩ := at_T43 (Kd.R_reads' HO_4.out).2.2 (ji81) p170 q170
                                      obtain rfl : ad165 = ad170 := (by injection e170)
                                      replace p170 := eq_true p170
                                      replace q170 := eq_true q170
                                      go_wp2
                                      repeat ((first | (refine stickfullaw21_IntrinsicCuts_quiet (by kernel_rfl) (by kernel_rfl) (by kernel_rfl) ?_; (try dsimp only [List.append]); (repeat (go_big_quiet_step (fail))); refine wpQuiet_nil ?_; intro _ hw'; obtain ⟨nq, hw''⟩ := hw'; subst hw'') | (refine stickfullaw21_IntrinsicCuts_quiet (by kernel_rfl) (by kernel_rfl) (by kernel_rfl) ?_; (try dsimp only [List.append]); (repeat (quiet_step (fail))); refine wpQuiet_nil ?_; intro _ hw'; obtain ⟨nq, hw''⟩ := hw'; subst hw'')); try go_wp2)
                                      go_meet
                                      case rel => exact ⟨_, ((((rd_T43 t138 x6_1).f0) != ((rd_T43 t138 (ji81)).f1))), (by first | rfl | (simp; done) | (simp only [← hji81] <;> (first | rfl | simp)) | (simp [*]; done)), H', ⟨by have := HK1.out; have := HJ10.out; first | omega | exact Nat.le_refl _⟩, ⟨by (with_reducible repeat (first | apply Kd.R_alloc | apply Kd.R_drewN | apply Kd.R_drew)); exact HO_3.out⟩, ⟨by (with_reducible repeat (first | apply Kd.R_alloc | apply Kd.R_drewN | apply Kd.R_drew)); exact HO_4.out⟩, ⟨by repeat (first | (with_reducible first | exact HB.out | apply below_alloc | apply pw_below_drewN | apply below_drew1) | exact HB.out)⟩⟩
                                    · rw [if_neg c83] at H
                                      exact absurd H (by simp)
                                  · rw [if_neg c82] at H
                                    exact absurd H (by simp)
                                · rw [if_neg c80] at H
                                  have c80b0 : decide (0 < x6_1) = false := decide_eq_false c80
                                  clear c80
                                  have H' := Aside0.mk H
                                  clear H
                                  obtain ⟨Ao85, co85, eo85⟩ := Kd.R_slice HO_4.out
                                  subst eo85
                                  have p165 : 0 ≤ (x6_1 : Int) := of_decide_eq_true (by first | (with_reducible assumption) | assumption)
                                  have q165 : x6_1 < (t138.length : Int) := of_decide_eq_true (by first | (with_reducible assumption) | assumption)
                                  obtain ⟨ad165, e165, hx165_0, hx165_1⟩ := at_T43 (Kd.R_reads' HO_4.out).2.2 x6_1 p165 q165
                                  cases e165
                                  replace p165 := eq_true p165
                                  replace q165 := eq_true q165
                                  have p166 : 0 ≤ (x7_1 : Int) := of_decide_eq_true (by first | (with_reducible assumption) | assumption)
                                  have q166 : x7_1 < (t135.length : Int) := of_decide_eq_true (by first | (with_reducible assumption) | assumption)
                                  obtain ⟨ad166, e166, hx166_0, hx166_1⟩ := at_T43 (Kd.R_reads' HO_3.out).2.2 x7_1 p166 q166
                                  cases e166
                                  replace p166 := eq_true p166
                                  replace q166 := eq_true q166
                                  have p167 : 0 ≤ (x7_1 : Int) := of_decide_eq_true (by first | (with_reducible assumption) | assumption)
                                  have q167 : x7_1 < (t135.length : Int) := of_decide_eq_true (by first | (with_reducible assumption) | assumption)
                                  obtain ⟨ad167, e167, hx167_0, hx167_1⟩ := at_T43 (Kd.R_reads' HO_3.out).2.2 x7_1 p167 q167
                                  obtain rfl : ad166 = ad167 := (by injection e167)
                                  replace p167 := eq_true p167
                                  replace q167 := eq_true q167
                                  have p168 : 0 ≤ (x6_1 : Int) := of_decide_eq_true (by first | (with_reducible assumption) | assumption)
                                  have q168 : x6_1 < (t138.length : Int) := of_decide_eq_true (by first | (with_reducible assumption) | assumption)
                                  obtain ⟨ad168, e168, hx168_0, hx168_1⟩ := at_T43 (Kd.R_reads' HO_4.out).2.2 x6_1 p168 q168
                                  obtain rfl : ad165 = ad168 := (by injection e168)
                                  replace p168 := eq_true p168
                                  replace q168 := eq_true q168
                                  go_wp2
                                  repeat ((first | (refine stickfullaw21_IntrinsicCuts_quiet (by kernel_rfl) (by kernel_rfl) (by kernel_rfl) ?_; (try dsimp only [List.append]); (repeat (go_big_quiet_step (fail))); refine wpQuiet_nil ?_; intro _ hw'; obtain ⟨nq, hw''⟩ := hw'; subst hw'') | (refine stickfullaw21_IntrinsicCuts_quiet (by kernel_rfl) (by kernel_rfl) (by kernel_rfl) ?_; (try dsimp only [List.append]); (repeat (quiet_step (fail))); refine wpQuiet_nil ?_; intro _ hw'; obtain ⟨nq, hw''⟩ := hw'; subst hw'')); try go_wp2)
                                  go_meet
                                  case rel => exact ⟨_, (false), (by first | rfl | (simp; done) | (simp [*]; done)), H', ⟨by have := HK1.out; have := HJ10.out; first | omega | exact Nat.le_refl _⟩, ⟨by (with_reducible repeat (first | apply Kd.R_alloc | apply Kd.R_drewN | apply Kd.R_drew)); exact HO_3.out⟩, ⟨by (with_reducible repeat (first | apply Kd.R_alloc | apply Kd.R_drewN | apply Kd.R_drew)); exact HO_4.out⟩, ⟨by repeat (first | (with_reducible first | exact HB.out | apply below_alloc | apply pw_below_drewN | apply below_drew1) | exact HB.out)⟩⟩
                              · rw [if_neg c79] at H
                                have c79b0 : (((rd_T43 t135 x7_1).f0) == ((rd_T43 t138 x6_1).f0)) = false := beq_eq_false_iff_ne.mpr c79
                                have c79b1 : (((rd_T43 t135 x7_1).f0) != ((rd_T43 t138 x6_1).f0)) = true := bne_iff_ne.mpr c79
                                have H' := Aside0.mk H
                                clear H
                                obtain ⟨Ao86, co86, eo86⟩ := Kd.R_slice HO_4.out
                                subst eo86
                                have p165 : 0 ≤ (x6_1 : Int) := of_decide_eq_true (by first | (with_reducible assumption) | assumption)
                                have q165 : x6_1 < (t138.length : Int) := of_decide_eq_true (by first | (with_reducible assumption) | assumption)
                                obtain ⟨ad165, e165, hx165_0, hx165_1⟩ := at_T43 (Kd.R_reads' HO_4.out).2.2 x6_1 p165 q165
                                cases e165
                                replace p165 := eq_true p165
                                replace q165 := eq_true q165
                                have p166 : 0 ≤ (x7_1 : Int) := of_decide_eq_true (by first | (with_reducible assumption) | assumption)
                                have q166 : x7_1 < (t135.length : Int) := of_decide_eq_true (by first | (with_reducible assumption) | assumption)
                                obtain ⟨ad166, e166, hx166_0, hx166_1⟩ := at_T43 (Kd.R_reads' HO_3.out).2.2 x7_1 p166 q166
                                cases e166
                                replace p166 := eq_true p166
                                replace q166 := eq_true q166
                                have p167 : 0 ≤ (x7_1 : Int) := of_decide_eq_true (by first | (with_reducible assumption) | assumption)
                                have q167 : x7_1 < (t135.length : Int) := of_decide_eq_true (by first | (with_reducible assumption) | assumption)
                                obtain ⟨ad167, e167, hx167_0, hx167_1⟩ := at_T43 (Kd.R_reads' HO_3.out).2.2 x7_1 p167 q167
                                obtain rfl : ad166 = ad167 := (by injection e167)
                                replace p167 := eq_true p167
                                replace q167 := eq_true q167
                                have p168 : 0 ≤ (x6_1 : Int) := of_decide_eq_true (by first | (with_reducible assumption) | assumption)
                                have q168 : x6_1 < (t138.length : Int) := of_decide_eq_true (by first | (with_reducible assumption) | assumption)
                                obtain ⟨ad168, e168, hx168_0, hx168_1⟩ := at_T43 (Kd.R_reads' HO_4.out).2.2 x6_1 p168 q168
                                obtain rfl : ad165 = ad168 := (by injection e168)
                                replace p168 := eq_true p168
                                replace q168 := eq_true q168
                                go_wp2
                                repeat ((first | (refine stickfullaw21_IntrinsicCuts_quiet (by kernel_rfl) (by kernel_rfl) (by kernel_rfl) ?_; (try dsimp only [List.append]); (repeat (go_big_quiet_step (fail))); refine wpQuiet_nil ?_; intro _ hw'; obtain ⟨nq, hw''⟩ := hw'; subst hw'') | (refine stickfullaw21_IntrinsicCuts_quiet (by kernel_rfl) (by kernel_rfl) (by kernel_rfl) ?_; (try dsimp only [List.append]); (repeat (quiet_step (fail))); refine wpQuiet_nil ?_; intro _ hw'; obtain ⟨nq, hw''⟩ := hw'; subst hw'')); try go_wp2)
                                go_meet
                                case rel => exact ⟨_, (false), (by first | rfl | (simp; done) | (simp [*]; done)), H', ⟨by have := HK1.out; have := HJ10.out; first | omega | exact Nat.le_refl _⟩, ⟨by (with_reducible repeat (first | apply Kd.R_alloc | apply Kd.R_drewN | apply Kd.R_drew)); exact HO_3.out⟩, ⟨by (with_reducible repeat (first | apply Kd.R_alloc | apply Kd.R_drewN | apply Kd.R_drew)); exact HO_4.out⟩, ⟨by repeat (first | (with_reducible first | exact HB.out | apply below_alloc | apply pw_below_drewN | apply below_drew1) | exact HB.out)⟩⟩
                          · rw [if_neg c76] at H
                            exact absurd H (by simp)
                        · rw [if_neg c75] at H
                          exact absurd H (by simp)
                      · rw [if_neg c74] at H
                        exact absurd H (by simp)
                    · rw [if_neg c73] at H
                      exact absurd H (by simp)
                case rest =>
                  clear HC19
                  try clear p1
                  try clear q1
                  try clear hx1
                  try clear c2
                  try clear p2
                  try clear q2
                  try clear q3
                  try clear c5
                  try clear c6
                  try clear p6
                  try clear c7
                  try clear c8
                  try clear p14
                  try clear q14
                  try clear hx14
                  try clear p15
                  try clear q15
                  try clear hx15
                  try clear p16
                  try clear q16
                  try clear hx16
                  try clear p17
                  try clear q17
                  try clear hx17
                  try clear c20
                  try clear c20b0
                  try clear c21
                  try clear c22
                  try clear q23
                  try clear q39
                  try clear c56
                  try clear c57
                  try clear c58
                  try clear c58b0
                  try clear c58b1
                  try clear c59
                  try clear c60
                  try clear c61
                  try clear c62
                  try clear c63
                  try clear c63b0
                  try clear p64
                  try clear c65
                  try clear c65b0
                  try clear c65b1
                  try clear c66
                  try clear c66b0
                  try clear c68
                  try clear c68b0
                  try clear c69
                  try clear c69b0
                  try clear c73
                  try clear c73b0
                  try clear c74
                  try clear c74b0
                  try clear c75
                  try clear c75b0
                  try clear c76
                  try clear c76b0
                  try clear c77
                  try clear c77b0
                  try clear c79
                  try clear c79b0
                  try clear c79b1
                  try clear c80
                  try clear c80b0
                  try clear c82
                  try clear c82b0
                  try clear c83
                  try clear c83b0
                  try clear hx144_0
                  try clear hx144_1
                  try clear hx144_2
                  try clear hx144_3
                  try clear hx144_4
                  try clear hx144_5
                  try clear hx151_0
                  try clear hx151_1
                  try clear hx151_2
                  try clear hx151_3
                  try clear hx151_4
                  try clear hx151_5
                  try clear hx158_0
                  try clear hx158_1
                  try clear hx158_2
                  try clear hx158_3
                  try clear hx158_4
                  try clear hx158_5
                  try clear hx159_0
                  try clear hx159_1
                  try clear hx160_0
                  try clear hx160_1
                  try clear hx161_0
                  try clear hx161_1
                  try clear hx162_0
                  try clear hx162_1
                  try clear hx163_0
                  try clear hx163_1
                  try clear hx164_0
                  try clear hx164_1
                  try clear hx165_0
                  try clear hx165_1
                  try clear hx166_0
                  try clear hx166_1
                  try clear hx167_0
                  try clear hx167_1
                  try clear hx168_0
                  try clear hx168_1
                  try clear hx169_0
                  try clear hx169_1
                  try clear hx170_0
                  try clear hx170_1
                  try clear p144
                  try clear p151
                  try clear p158
                  try clear p159
                  try clear p160
                  try clear p161
                  try clear p162
                  try clear p163
                  try clear p164
                  try clear p165
                  try clear p166
                  try clear p167
                  try clear p168
                  try clear p169
                  try clear p170
                  try clear q144
                  try clear q151
                  try clear q158
                  try clear q159
                  try clear q160
                  try clear q161
                  try clear q162
                  try clear q163
                  try clear q164
                  try clear q165
                  try clear q166
                  try clear q167
                  try clear q168
                  try clear q169
                  try clear q170
                  obtain ⟨kq, x124_18, rfl, HA, HJ18, HO_3, HO_4, HB⟩ := hcut
                  cases kq with
                  | zero => exact absurd HA.out (by simp [stickfullaw21_IntrinsicCuts.j2])
                  | succ kj18 =>
                    have H := HA.out
                    clear HA
                    simp only [stickfullaw21_IntrinsicCuts.j2] at H
                    by_cases c87 : x124_18 = true
                    · subst c87
                      have H1 : (some false) = some true := by rw [if_pos rfl] at H; exact H
                      clear H
                      have H := H1
                      clear H1
                      have hrt := Option.some.inj H
                      first | exact absurd hrt (by decide) | skip
                      all_goals (
                        go_wp2
                        repeat ((first | (refine stickfullaw21_IntrinsicCuts_quiet (by kernel_rfl) (by kernel_rfl) (by kernel_rfl) ?_; (try dsimp only [List.append]); (repeat (go_big_quiet_step (fail))); refine wpQuiet_nil ?_; intro _ hw'; obtain ⟨nq, hw''⟩ := hw'; subst hw'') | (refine stickfullaw21_IntrinsicCuts_quiet (by kernel_rfl) (by kernel_rfl) (by kernel_rfl) ?_; (try dsimp only [List.append]); (repeat (quiet_step (fail))); refine wpQuiet_nil ?_; intro _ hw'; obtain ⟨nq, hw''⟩ := hw'; subst hw'')); try go_wp2)
                        go_ret
                        try subst hrt
                        exact ⟨by first | rfl | (simp [errW_none, errW_some] <;> rfl) | (simp [*, errW_none, errW_some] <;> rfl), by repeat (first | (with_reducible first | exact HB.out | apply below_alloc | apply pw_below_drewN | apply below_drew1) | exact HB.out)⟩)
                    · replace c87 := Bool.eq_false_iff.mpr c87
                      subst c87
                      have H1 : (if 0 ≤ x7_1 then (if x7_1 < (t135.length : Int) then (if 0 ≤ x6_1 then (if x6_1 < (t138.length : Int) then (if ((rd_T43 t135 x7_1).f1) = ((rd_T43 t138 x6_1).f1) then (stickfullaw21_IntrinsicCuts.l0 kj18 l0 t135 t138 ((rd_T43 t135 x7_1).f1) (wrap64 (x6_1 + 1)) (wrap64 (x7_1 + 1))) else (stickfullaw21_IntrinsicCuts.l0 kj18 l0 t135 t138 ((rd_T43 t135 x7_1).f1) x6_1 (wrap64 (x7_1 + 1)))) else (none)) else (none)) else (none)) else (none)) = some true := by rw [if_neg (show ¬ (false = true) by decide)] at H; exact H
                      clear H
                      have H := H1
                      clear H1
                      by_cases c88 : 0 ≤ x7_1
                      · rw [if_pos c88] at H
                        have c88b0 : decide (0 ≤ x7_1) = true := decide_eq_true c88
                        clear c88
                        by_cases c89 : x7_1 < (t135.length : Int)
                        · rw [if_pos c89] at H
                          have c89b0 : decide (x7_1 < (t135.length : Int)) = true := decide_eq_true c89
                          clear c89
                          by_cases c90 : 0 ≤ x6_1
                          · rw [if_pos c90] at H
                            have c90b0 : decide (0 ≤ x6_1) = true := decide_eq_true c90
                            clear c90
                            by_cases c91 : x6_1 < (t138.length : Int)
                            · rw [if_pos c91] at H
                              have c91b0 : decide (x6_1 < (t138.length : Int)) = true := decide_eq_true c91
                              clear c91
                              by_cases c92 : ((rd_T43 t135 x7_1).f1) = ((rd_T43 t138 x6_1).f1)
                              · rw [if_pos c92] at H
                                have c92b0 : (((rd_T43 t135 x7_1).f1) == ((rd_T43 t138 x6_1).f1)) = true := beq_iff_eq.mpr c92
                                have c92b1 : (((rd_T43 t135 x7_1).f1) != ((rd_T43 t138 x6_1).f1)) = false := bne_eq_false_iff_eq.mpr c92
                                clear c92
                                have H' := Aside0.mk H
                                clear H
                                have p171 : 0 ≤ (x7_1 : Int) := of_decide_eq_true (by first | (with_reducible assumption) | assumption)
                                have q171 : x7_1 < (t135.length : Int) := of_decide_eq_true (by first | (with_reducible assumption) | assumption)
                                obtain ⟨ad171, e171, hx171_0, hx171_1⟩ := at_T43 (Kd.R_reads' HO_3.out).2.2 x7_1 p171 q171
                                cases e171
                                replace p171 := eq_true p171
                                replace q171 := eq_true q171
                                obtain ⟨Ao93, co93, eo93⟩ := Kd.R_slice HO_4.out
                                subst eo93
                                have p172 : 0 ≤ (x6_1 : Int) := of_decide_eq_true (by first | (with_reducible assumption) | assumption)
                                have q172 : x6_1 < (t138.length : Int) := of_decide_eq_true (by first | (with_reducible assumption) | assumption)
                                obtain ⟨ad172, e172, hx172_0, hx172_1⟩ := at_T43 (Kd.R_reads' HO_4.out).2.2 x6_1 p172 q172
                                cases e172
                                replace p172 := eq_true p172
                                replace q172 := eq_true q172
                                go_wp2
                                repeat ((first | (refine stickfullaw21_IntrinsicCuts_quiet (by kernel_rfl) (by kernel_rfl) (by kernel_rfl) ?_; (try dsimp only [List.append]); (repeat (go_big_quiet_step (fail))); refine wpQuiet_nil ?_; intro _ hw'; obtain ⟨nq, hw''⟩ := hw'; subst hw'') | (refine stickfullaw21_IntrinsicCuts_quiet (by kernel_rfl) (by kernel_rfl) (by kernel_rfl) ?_; (try dsimp only [List.append]); (repeat (quiet_step (fail))); refine wpQuiet_nil ?_; intro _ hw'; obtain ⟨nq, hw''⟩ := hw'; subst hw'')); try go_wp2)
                                go_roundg kj18
                                case measure => have := HK1.out; have := HJ10.out; have := HJ18.out; omega
                                case rel => exact ⟨((rd_T43 t135 x7_1).f1), (wrap64 (x6_1 + 1)), (wrap64 (x7_1 + 1)), (by first | rfl | (simp; done) | (simp [*]; done)), (by first | rfl | (simp; done) | (simp [*]; done)), (by first | rfl | (simp; done) | (simp [*]; done)), H', ⟨by have := HK1.out; have := HJ10.out; have := HJ18.out; omega⟩, ⟨by (with_reducible repeat (first | apply Kd.R_alloc | apply Kd.R_drewN | apply Kd.R_drew)); exact HO_3.out⟩, ⟨by (with_reducible repeat (first | apply Kd.R_alloc | apply Kd.R_drewN | apply Kd.R_drew)); exact HO_4.out⟩, ⟨by repeat (first | (with_reducible first | exact HB.out | apply below_alloc | apply pw_below_drewN | apply below_drew1) | exact HB.out)⟩⟩
                              · rw [if_neg c92] at H
                                have c92b0 : (((rd_T43 t135 x7_1).f1) == ((rd_T43 t138 x6_1).f1)) = false := beq_eq_false_iff_ne.mpr c92
                                have c92b1 : (((rd_T43 t135 x7_1).f1) != ((rd_T43 t138 x6_1).f1)) = true := bne_iff_ne.mpr c92
                                have H' := Aside0.mk H
                                clear H
                                have p171 : 0 ≤ (x7_1 : Int) := of_decide_eq_true (by first | (with_reducible assumption) | assumption)
                                have q171 : x7_1 < (t135.length : Int) := of_decide_eq_true (by first | (with_reducible assumption) | assumption)
                                obtain ⟨ad171, e171, hx171_0, hx171_1⟩ := at_T43 (Kd.R_reads' HO_3.out).2.2 x7_1 p171 q171
                                cases e171
                                replace p171 := eq_true p171
                                replace q171 := eq_true q171
                                obtain ⟨Ao94, co94, eo94⟩ := Kd.R_slice HO_4.out
                                subst eo94
                                have p172 : 0 ≤ (x6_1 : Int) := of_decide_eq_true (by first | (with_reducible assumption) | assumption)
                                have q172 : x6_1 < (t138.length : Int) := of_decide_eq_true (by first | (with_reducible assumption) | assumption)
                                obtain ⟨ad172, e172, hx172_0, hx172_1⟩ := at_T43 (Kd.R_reads' HO_4.out).2.2 x6_1 p172 q172
                                cases e172
                                replace p172 := eq_true p172
                                replace q172 := eq_true q172
                                go_wp2
                                repeat ((first | (refine stickfullaw21_IntrinsicCuts_quiet (by kernel_rfl) (by kernel_rfl) (by kernel_rfl) ?_; (try dsimp only [List.append]); (repeat (go_big_quiet_step (fail))); refine wpQuiet_nil ?_; intro _ hw'; obtain ⟨nq, hw''⟩ := hw'; subst hw'') | (refine stickfullaw21_IntrinsicCuts_quiet (by kernel_rfl) (by kernel_rfl) (by kernel_rfl) ?_; (try dsimp only [List.append]); (repeat (quiet_step (fail))); refine wpQuiet_nil ?_; intro _ hw'; obtain ⟨nq, hw''⟩ := hw'; subst hw'')); try go_wp2)
                                go_roundg kj18
                                case measure => have := HK1.out; have := HJ10.out; have := HJ18.out; omega
                                case rel => exact ⟨((rd_T43 t135 x7_1).f1), (x6_1), (wrap64 (x7_1 + 1)), (by first | rfl | (simp; done) | (simp [*]; done)), (by first | rfl | (simp; done) | (simp [*]; done)), (by first | rfl | (simp; done) | (simp [*]; done)), H', ⟨by have := HK1.out; have := HJ10.out; have := HJ18.out; omega⟩, ⟨by (with_reducible repeat (first | apply Kd.R_alloc | apply Kd.R_drewN | apply Kd.R_drew)); exact HO_3.out⟩, ⟨by (with_reducible repeat (first | apply Kd.R_alloc | apply Kd.R_drewN | apply Kd.R_drew)); exact HO_4.out⟩, ⟨by repeat (first | (with_reducible first | exact HB.out | apply below_alloc | apply pw_below_drewN | apply below_drew1) | exact HB.out)⟩⟩
                            · rw [if_neg c91] at H
                              exact absurd H (by simp)
                          · rw [if_neg c90] at H
                            exact absurd H (by simp)
                        · rw [if_neg c89] at H
                          exact absurd H (by simp)
                      · rw [if_neg c88] at H
                        exact absurd H (by simp)
        · rw [if_neg c10] at H
          have c10b0 : decide (x7_1 < (t135.length : Int)) = false := decide_eq_false c10
          clear c10
          have H' := Aside0.mk H
          clear H
          obtain ⟨Ao95, co95, eo95⟩ := Kd.R_slice HO_3.out
          subst eo95
          go_wp2
          repeat ((first | (refine stickfullaw21_IntrinsicCuts_quiet (by kernel_rfl) (by kernel_rfl) (by kernel_rfl) ?_; (try dsimp only [List.append]); (repeat (go_big_quiet_step (fail))); refine wpQuiet_nil ?_; intro _ hw'; obtain ⟨nq, hw''⟩ := hw'; subst hw'') | (refine stickfullaw21_IntrinsicCuts_quiet (by kernel_rfl) (by kernel_rfl) (by kernel_rfl) ?_; (try dsimp only [List.append]); (repeat (quiet_step (fail))); refine wpQuiet_nil ?_; intro _ hw'; obtain ⟨nq, hw''⟩ := hw'; subst hw'')); try go_wp2)
          go_loopg [8] k1 (fun kq v8 w' => ∃ (x8_2 : Int), v8 = .int .i64 x8_2 ∧ Aside0 (stickfullaw21_IntrinsicCuts.l1 kq l0 t138 x5_1 x6_1 x8_2 = some true) ∧ Aside0 (kq ≤ k1) ∧ Aside0 (Kd.R k43 43 w' w.heap.size (fun _ => True) v139 t138) ∧ Aside0 (Below w.heap.size w w'))
          case atStart => exact ⟨(0), (by first | rfl | (simp; done) | (simp [*]; done)), H', ⟨Nat.le_refl _⟩, ⟨by (with_reducible repeat (first | apply Kd.R_alloc | apply Kd.R_drewN | apply Kd.R_drew)); exact Kd.R_mono HO_4.out (fun _ hk => trivial)⟩, ⟨by repeat (first | (with_reducible first | exact HB.out | apply below_alloc | apply pw_below_drewN | apply below_drew1) | exact HB.out)⟩⟩
          case round =>
            clear H'
            try clear c1
            try clear p1
            try clear q1
            try clear hx1
            try clear c2
            try clear p2
            try clear q2
            try clear q3
            try clear c5
            try clear c6
            try clear p6
            try clear c7
            try clear c8
            try clear c9
            try clear c10
            try clear c10b0
            try clear p14
            try clear q14
            try clear hx14
            try clear p15
            try clear q15
            try clear hx15
            try clear p16
            try clear q16
            try clear hx16
            try clear p17
            try clear q17
            try clear hx17
            try clear c20
            try clear c20b0
            try clear c21
            try clear c22
            try clear q23
            try clear q39
            try clear c56
            try clear c57
            try clear c58
            try clear c58b0
            try clear c58b1
            try clear c59
            try clear c60
            try clear c61
            try clear c62
            try clear c63
            try clear c63b0
            try clear p64
            try clear c65
            try clear c65b0
            try clear c65b1
            try clear c66
            try clear c66b0
            try clear c68
            try clear c68b0
            try clear c69
            try clear c69b0
            try clear c73
            try clear c73b0
            try clear c74
            try clear c74b0
            try clear c75
            try clear c75b0
            try clear c76
            try clear c76b0
            try clear c77
            try clear c77b0
            try clear c79
            try clear c79b0
            try clear c79b1
            try clear c80
            try clear c80b0
            try clear c82
            try clear c82b0
            try clear c83
            try clear c83b0
            try clear c87
            try clear c88
            try clear c88b0
            try clear c89
            try clear c89b0
            try clear c90
            try clear c90b0
            try clear c91
            try clear c91b0
            try clear c92
            try clear c92b0
            try clear c92b1
            try clear hx144_0
            try clear hx144_1
            try clear hx144_2
            try clear hx144_3
            try clear hx144_4
            try clear hx144_5
            try clear hx151_0
            try clear hx151_1
            try clear hx151_2
            try clear hx151_3
            try clear hx151_4
            try clear hx151_5
            try clear hx158_0
            try clear hx158_1
            try clear hx158_2
            try clear hx158_3
            try clear hx158_4
            try clear hx158_5
            try clear hx159_0
            try clear hx159_1
            try clear hx160_0
            try clear hx160_1
            try clear hx161_0
            try clear hx161_1
            try clear hx162_0
            try clear hx162_1
            try clear hx163_0
            try clear hx163_1
            try clear hx164_0
            try clear hx164_1
            try clear hx165_0
            try clear hx165_1
            try clear hx166_0
            try clear hx166_1
            try clear hx167_0
            try clear hx167_1
            try clear hx168_0
            try clear hx168_1
            try clear hx169_0
            try clear hx169_1
            try clear hx170_0
            try clear hx170_1
            try clear hx171_0
            try clear hx171_1
            try clear hx172_0
            try clear hx172_1
            try clear p1
            try clear p14
            try clear p144
            try clear p15
            try clear p151
            try clear p158
            try clear p159
            try clear p16
            try clear p160
            try clear p161
            try clear p162
            try clear p163
            try clear p164
            try clear p165
            try clear p166
            try clear p167
            try clear p168
            try clear p169
            try clear p17
            try clear p170
            try clear p171
            try clear p172
            try clear p2
            try clear p6
            try clear p64
            try clear q1
            try clear q14
            try clear q144
            try clear q15
            try clear q151
            try clear q158
            try clear q159
            try clear q16
            try clear q160
            try clear q161
            try clear q162
            try clear q163
            try clear q164
            try clear q165
            try clear q166
            try clear q167
            try clear q168
            try clear q169
            try clear q17
            try clear q170
            try clear q171
            try clear q172
            try clear q2
            try clear q23
            try clear q3
            try clear q39
            obtain ⟨x8_2, rfl, HA, HK2, HO_4, HB⟩ := hrel
            cases gk with
            | zero => exact absurd HA.out (by simp [stickfullaw21_IntrinsicCuts.l1])
            | succ k2 =>
              have H := HA.out
              clear HA
              simp only [stickfullaw21_IntrinsicCuts.l1] at H
              by_cases c96 : x8_2 < (t138.length : Int)
              · rw [if_pos c96] at H
                have c96b0 : decide (x8_2 < (t138.length : Int)) = true := decide_eq_true c96
                clear c96
                by_cases c97 : 0 ≤ x8_2
                · rw [if_pos c97] at H
                  have c97b0 : decide (0 ≤ x8_2) = true := decide_eq_true c97
                  clear c97
                  by_cases c98 : ((rd_T43 t138 x8_2).f1) < 1
                  · rw [if_pos c98] at H
                    have c98b0 : decide (((rd_T43 t138 x8_2).f1) < 1) = true := decide_eq_true c98
                    clear c98
                    have hrt := Option.some.inj H
                    first | exact absurd hrt (by decide) | skip
                    all_goals (
                      obtain ⟨Ao99, co99, eo99⟩ := Kd.R_slice HO_4.out
                      subst eo99
                      have p173 : 0 ≤ (x8_2 : Int) := of_decide_eq_true (by first | (with_reducible assumption) | assumption)
                      have q173 : x8_2 < (t138.length : Int) := of_decide_eq_true (by first | (with_reducible assumption) | assumption)
                      obtain ⟨ad173, e173, hx173_0, hx173_1⟩ := at_T43 (Kd.R_reads' HO_4.out).2.2 x8_2 p173 q173
                      cases e173
                      replace p173 := eq_true p173
                      replace q173 := eq_true q173
                      go_wp2
                      repeat ((first | (refine stickfullaw21_IntrinsicCuts_quiet (by kernel_rfl) (by kernel_rfl) (by kernel_rfl) ?_; (try dsimp only [List.append]); (repeat (go_big_quiet_step (fail))); refine wpQuiet_nil ?_; intro _ hw'; obtain ⟨nq, hw''⟩ := hw'; subst hw'') | (refine stickfullaw21_IntrinsicCuts_quiet (by kernel_rfl) (by kernel_rfl) (by kernel_rfl) ?_; (try dsimp only [List.append]); (repeat (quiet_step (fail))); refine wpQuiet_nil ?_; intro _ hw'; obtain ⟨nq, hw''⟩ := hw'; subst hw'')); try go_wp2)
                      go_ret
                      try subst hrt
                      exact ⟨by first | rfl | (simp [errW_none, errW_some] <;> rfl) | (simp [*, errW_none, errW_some] <;> rfl), by repeat (first | (with_reducible first | exact HB.out | apply below_alloc | apply pw_below_drewN | apply below_drew1) | exact HB.out)⟩)
                  · rw [if_neg c98] at H
                    have c98b0 : decide (((rd_T43 t138 x8_2).f1) < 1) = false := decide_eq_false c98
                    clear c98
                    by_cases c100 : ((rd_T43 t138 x8_2).f1) > (l0.length : Int)
                    · rw [if_pos c100] at H
                      have c100b0 : decide ((l0.length : Int) < ((rd_T43 t138 x8_2).f1)) = true := decide_eq_true c100
                      clear c100
                      have hrt := Option.some.inj H
                      first | exact absurd hrt (by decide) | skip
                      all_goals (
                        obtain ⟨Ao101, co101, eo101⟩ := Kd.R_slice HO_4.out
                        subst eo101
                        have p173 : 0 ≤ (x8_2 : Int) := of_decide_eq_true (by first | (with_reducible assumption) | assumption)
                        have q173 : x8_2 < (t138.length : Int) := of_decide_eq_true (by first | (with_reducible assumption) | assumption)
                        obtain ⟨ad173, e173, hx173_0, hx173_1⟩ := at_T43 (Kd.R_reads' HO_4.out).2.2 x8_2 p173 q173
                        cases e173
                        replace p173 := eq_true p173
                        replace q173 := eq_true q173
                        have p174 : 0 ≤ (x8_2 : Int) := of_decide_eq_true (by first | (with_reducible assumption) | assumption)
                        have q174 : x8_2 < (t138.length : Int) := of_decide_eq_true (by first | (with_reducible assumption) | assumption)
                        obtain ⟨ad174, e174, hx174_0, hx174_1⟩ := at_T43 (Kd.R_reads' HO_4.out).2.2 x8_2 p174 q174
                        obtain rfl : ad173 = ad174 := (by injection e174)
                        replace p174 := eq_true p174
                        replace q174 := eq_true q174
                        go_wp2
                        repeat ((first | (refine stickfullaw21_IntrinsicCuts_quiet (by kernel_rfl) (by kernel_rfl) (by kernel_rfl) ?_; (try dsimp only [List.append]); (repeat (go_big_quiet_step (fail))); refine wpQuiet_nil ?_; intro _ hw'; obtain ⟨nq, hw''⟩ := hw'; subst hw'') | (refine stickfullaw21_IntrinsicCuts_quiet (by kernel_rfl) (by kernel_rfl) (by kernel_rfl) ?_; (try dsimp only [List.append]); (repeat (quiet_step (fail))); refine wpQuiet_nil ?_; intro _ hw'; obtain ⟨nq, hw''⟩ := hw'; subst hw'')); try go_wp2)
                        go_ret
                        try subst hrt
                        exact ⟨by first | rfl | (simp [errW_none, errW_some] <;> rfl) | (simp [*, errW_none, errW_some] <;> rfl), by repeat (first | (with_reducible first | exact HB.out | apply below_alloc | apply pw_below_drewN | apply below_drew1) | exact HB.out)⟩)
                    · rw [if_neg c100] at H
                      have c100b0 : decide ((l0.length : Int) < ((rd_T43 t138 x8_2).f1)) = false := decide_eq_false c100
                      clear c100
                      obtain ⟨ji102, hji102⟩ : ∃ j_ : Int, (wrap64 (((rd_T43 t138 x8_2).f1) - 1)) = j_ := ⟨_, rfl⟩
                      replace H : (if 0 ≤ (ji102) then (if (ji102) < (l0.length : Int) then (if ((rd_T25 l0 (ji102)).f0) = 5 then (stickfullaw21_IntrinsicCuts.l1 k2 l0 t138 x5_1 x6_1 (wrap64 (x8_2 + 1))) else (if ((rd_T43 t138 x8_2).f1) = (l0.length : Int) then (stickfullaw21_IntrinsicCuts.l1 k2 l0 t138 x5_1 x6_1 (wrap64 (x8_2 + 1))) else (some false))) else (none)) else (none)) = some true := by first | (rw [hji102] at H; exact H) | (simp only [hji102] at H ⊢; exact H)
                      have hji102w : (IntKind.i64.wrap (((rd_T43 t138 x8_2).f1) - 1)) = ji102 := (i64_w _).trans hji102
                      by_cases c103 : 0 ≤ (ji102)
                      · rw [if_pos c103] at H
                        have c103b0 : decide (0 ≤ (ji102)) = true := decide_eq_true c103
                        clear c103
                        by_cases c104 : (ji102) < (l0.length : Int)
                        · rw [if_pos c104] at H
                          have c104b0 : decide ((ji102) < (l0.length : Int)) = true := decide_eq_true c104
                          clear c104
                          by_cases c105 : ((rd_T25 l0 (ji102)).f0) = 5
                          · rw [if_pos c105] at H
                            have c105b0 : (((rd_T25 l0 (ji102)).f0) == 5) = true := beq_iff_eq.mpr c105
                            have c105b1 : (((rd_T25 l0 (ji102)).f0) != 5) = false := bne_eq_false_iff_eq.mpr c105
                            clear c105
                            have H' := Aside0.mk H
                            clear H
                            obtain ⟨Ao106, co106, eo106⟩ := Kd.R_slice HO_4.out
                            subst eo106
                            have p173 : 0 ≤ (x8_2 : Int) := of_decide_eq_true (by first | (with_reducible assumption) | assumption)
                            have q173 : x8_2 < (t138.length : Int) := of_decide_eq_true (by first | (with_reducible assumption) | assumption)
                            obtain ⟨ad173, e173, hx173_0, hx173_1⟩ := at_T43 (Kd.R_reads' HO_4.out).2.2 x8_2 p173 q173
                            cases e173
                            replace p173 := eq_true p173
                            replace q173 := eq_true q173
                            have p174 : 0 ≤ (x8_2 : Int) := of_decide_eq_true (by first | (with_reducible assumption) | assumption)
                            have q174 : x8_2 < (t138.length : Int) := of_decide_eq_true (by first | (with_reducible assumption) | assumption)
                            obtain ⟨ad174, e174, hx174_0, hx174_1⟩ := at_T43 (Kd.R_reads' HO_4.out).2.2 x8_2 p174 q174
                            obtain rfl : ad173 = ad174 := (by injection e174)
                            replace p174 := eq_true p174
                            replace q174 := eq_true q174
                            have p175 : 0 ≤ (x8_2 : Int) := of_decide_eq_true (by first | (with_reducible assumption) | assumption)
                            have q175 : x8_2 < (t138.length : Int) := of_decide_eq_true (by first | (with_reducible assumption) | assumption)
                            obtain ⟨ad175, e175, hx175_0, hx175_1⟩ := at_T43 (Kd.R_reads' HO_4.out).2.2 x8_2 p175 q175
                            obtain rfl : ad173 = ad175 := (by injection e175)
                            replace p175 := eq_true p175
                            replace q175 := eq_true q175
                            have p176 : 0 ≤ ((ji102) : Int) := of_decide_eq_true (by first | (with_reducible assumption) | assumption)
                            have q176 : (ji102) < (l0.length : Int) := of_decide_eq_true (by first | (with_reducible assumption) | assumption)
                            obtain ⟨ad176, e176, hx176_0, hx176_1, hx176_2, hx176_3, hx176_4, hx176_5⟩ := at_T25 HR0.out (ji102) p176 q176
                            cases e176
                            replace hx176_0 := (HB.out.cell (World.block_lt_of_cell? w _ hx176_0)).trans hx176_0
                            replace hx176_1 := (HB.out.cell (World.block_lt_of_cell? w _ hx176_1)).trans hx176_1
                            replace hx176_2 := (HB.out.cell (World.block_lt_of_cell? w _ hx176_2)).trans hx176_2
                            replace hx176_3 := (HB.out.cell (World.block_lt_of_cell? w _ hx176_3)).trans hx176_3
                            replace hx176_4 := (HB.out.cell (World.block_lt_of_cell? w _ hx176_4)).trans hx176_4
                            replace hx176_5 := (HB.out.cell (World.block_lt_of_cell? w _ hx176_5)).trans hx176_5
                            replace p176 := eq_true p176
                            replace q176 := eq_true q176
                            go_wp2
                            repeat ((first | (refine stickfullaw21_IntrinsicCuts_quiet (by kernel_rfl) (by kernel_rfl) (by kernel_rfl) ?_; (try dsimp only [List.append]); (repeat (go_big_quiet_step (fail))); refine wpQuiet_nil ?_; intro _ hw'; obtain ⟨nq, hw''⟩ := hw'; subst hw'') | (refine stickfullaw21_IntrinsicCuts_quiet (by kernel_rfl) (by kernel_rfl) (by kernel_rfl) ?_; (try dsimp only [List.append]); (repeat (quiet_step (fail))); refine wpQuiet_nil ?_; intro _ hw'; obtain ⟨nq, hw''⟩ := hw'; subst hw'')); try go_wp2)
                            go_roundg k2
                            case measure => have := HK1.out; have := HK2.out; omega
                            case rel => exact ⟨(wrap64 (x8_2 + 1)), (by first | rfl | (simp; done) | (simp [*]; done)), H', ⟨by have := HK1.out; have := HK2.out; omega⟩, ⟨by (with_reducible repeat (first | apply Kd.R_alloc | apply Kd.R_drewN | apply Kd.R_drew)); exact HO_4.out⟩, ⟨by repeat (first | (with_reducible first | exact HB.out | apply below_alloc | apply pw_below_drewN | apply below_drew1) | exact HB.out)⟩⟩
                          · rw [if_neg c105] at H
                            have c105b0 : (((rd_T25 l0 (ji102)).f0) == 5) = false := beq_eq_false_iff_ne.mpr c105
                            have c105b1 : (((rd_T25 l0 (ji102)).f0) != 5) = true := bne_iff_ne.mpr c105
                            by_cases c107 : ((rd_T43 t138 x8_2).f1) = (l0.length : Int)
                            · rw [if_pos c107] at H
                              have c107b0 : (((rd_T43 t138 x8_2).f1) == (l0.length : Int)) = true := beq_iff_eq.mpr c107
                              have c107b1 : (((rd_T43 t138 x8_2).f1) != (l0.length : Int)) = false := bne_eq_false_iff_eq.mpr c107
                              clear c107
                              have H' := Aside0.mk H
                              clear H
                              obtain ⟨Ao108, co108, eo108⟩ := Kd.R_slice HO_4.out
                              subst eo108
                              have p173 : 0 ≤ (x8_2 : Int) := of_decide_eq_true (by first | (with_reducible assumption) | assumption)
                              have q173 : x8_2 < (t138.length : Int) := of_decide_eq_true (by first | (with_reducible assumption) | assumption)
                              obtain ⟨ad173, e173, hx173_0, hx173_1⟩ := at_T43 (Kd.R_reads' HO_4.out).2.2 x8_2 p173 q173
                              cases e173
                              replace p173 := eq_true p173
                              replace q173 := eq_true q173
                              have p174 : 0 ≤ (x8_2 : Int) := of_decide_eq_true (by first | (with_reducible assumption) | assumption)
                              have q174 : x8_2 < (t138.length : Int) := of_decide_eq_true (by first | (with_reducible assumption) | assumption)
                              obtain ⟨ad174, e174, hx174_0, hx174_1⟩ := at_T43 (Kd.R_reads' HO_4.out).2.2 x8_2 p174 q174
                              obtain rfl : ad173 = ad174 := (by injection e174)
                              replace p174 := eq_true p174
                              replace q174 := eq_true q174
                              have p175 : 0 ≤ (x8_2 : Int) := of_decide_eq_true (by first | (with_reducible assumption) | assumption)
                              have q175 : x8_2 < (t138.length : Int) := of_decide_eq_true (by first | (with_reducible assumption) | assumption)
                              obtain ⟨ad175, e175, hx175_0, hx175_1⟩ := at_T43 (Kd.R_reads' HO_4.out).2.2 x8_2 p175 q175
                              obtain rfl : ad173 = ad175 := (by injection e175)
                              replace p175 := eq_true p175
                              replace q175 := eq_true q175
                              have p176 : 0 ≤ ((ji102) : Int) := of_decide_eq_true (by first | (with_reducible assumption) | assumption)
                              have q176 : (ji102) < (l0.length : Int) := of_decide_eq_true (by first | (with_reducible assumption) | assumption)
                              obtain ⟨ad176, e176, hx176_0, hx176_1, hx176_2, hx176_3, hx176_4, hx176_5⟩ := at_T25 HR0.out (ji102) p176 q176
                              cases e176
                              replace hx176_0 := (HB.out.cell (World.block_lt_of_cell? w _ hx176_0)).trans hx176_0
                              replace hx176_1 := (HB.out.cell (World.block_lt_of_cell? w _ hx176_1)).trans hx176_1
                              replace hx176_2 := (HB.out.cell (World.block_lt_of_cell? w _ hx176_2)).trans hx176_2
                              replace hx176_3 := (HB.out.cell (World.block_lt_of_cell? w _ hx176_3)).trans hx176_3
                              replace hx176_4 := (HB.out.cell (World.block_lt_of_cell? w _ hx176_4)).trans hx176_4
                              replace hx176_5 := (HB.out.cell (World.block_lt_of_cell? w _ hx176_5)).trans hx176_5
                              replace p176 := eq_true p176
                              replace q176 := eq_true q176
                              have p177 : 0 ≤ (x8_2 : Int) := of_decide_eq_true (by first | (with_reducible assumption) | assumption)
                              have q177 : x8_2 < (t138.length : Int) := of_decide_eq_true (by first | (with_reducible assumption) | assumption)
                              obtain ⟨ad177, e177, hx177_0, hx177_1⟩ := at_T43 (Kd.R_reads' HO_4.out).2.2 x8_2 p177 q177
                              obtain rfl : ad173 = ad177 := (by injection e177)
                              replace p177 := eq_true p177
                              replace q177 := eq_true q177
                              go_wp2
                              repeat ((first | (refine stickfullaw21_IntrinsicCuts_quiet (by kernel_rfl) (by kernel_rfl) (by kernel_rfl) ?_; (try dsimp only [List.append]); (repeat (go_big_quiet_step (fail))); refine wpQuiet_nil ?_; intro _ hw'; obtain ⟨nq, hw''⟩ := hw'; subst hw'') | (refine stickfullaw21_IntrinsicCuts_quiet (by kernel_rfl) (by kernel_rfl) (by kernel_rfl) ?_; (try dsimp only [List.append]); (repeat (quiet_step (fail))); refine wpQuiet_nil ?_; intro _ hw'; obtain ⟨nq, hw''⟩ := hw'; subst hw'')); try go_wp2)
                              go_roundg k2
                              case measure => have := HK1.out; have := HK2.out; omega
                              case rel => exact ⟨(wrap64 (x8_2 + 1)), (by first | rfl | (simp; done) | (simp [*]; done)), H', ⟨by have := HK1.out; have := HK2.out; omega⟩, ⟨by (with_reducible repeat (first | apply Kd.R_alloc | apply Kd.R_drewN | apply Kd.R_drew)); exact HO_4.out⟩, ⟨by repeat (first | (with_reducible first | exact HB.out | apply below_alloc | apply pw_below_drewN | apply below_drew1) | exact HB.out)⟩⟩
                            · rw [if_neg c107] at H
                              have c107b0 : (((rd_T43 t138 x8_2).f1) == (l0.length : Int)) = false := beq_eq_false_iff_ne.mpr c107
                              have c107b1 : (((rd_T43 t138 x8_2).f1) != (l0.length : Int)) = true := bne_iff_ne.mpr c107
                              have hrt := Option.some.inj H
                              first | exact absurd hrt (by decide) | skip
                              all_goals (
                                obtain ⟨Ao109, co109, eo109⟩ := Kd.R_slice HO_4.out
                                subst eo109
                                have p173 : 0 ≤ (x8_2 : Int) := of_decide_eq_true (by first | (with_reducible assumption) | assumption)
                                have q173 : x8_2 < (t138.length : Int) := of_decide_eq_true (by first | (with_reducible assumption) | assumption)
                                obtain ⟨ad173, e173, hx173_0, hx173_1⟩ := at_T43 (Kd.R_reads' HO_4.out).2.2 x8_2 p173 q173
                                cases e173
                                replace p173 := eq_true p173
                                replace q173 := eq_true q173
                                have p174 : 0 ≤ (x8_2 : Int) := of_decide_eq_true (by first | (with_reducible assumption) | assumption)
                                have q174 : x8_2 < (t138.length : Int) := of_decide_eq_true (by first | (with_reducible assumption) | assumption)
                                obtain ⟨ad174, e174, hx174_0, hx174_1⟩ := at_T43 (Kd.R_reads' HO_4.out).2.2 x8_2 p174 q174
                                obtain rfl : ad173 = ad174 := (by injection e174)
                                replace p174 := eq_true p174
                                replace q174 := eq_true q174
                                have p175 : 0 ≤ (x8_2 : Int) := of_decide_eq_true (by first | (with_reducible assumption) | assumption)
                                have q175 : x8_2 < (t138.length : Int) := of_decide_eq_true (by first | (with_reducible assumption) | assumption)
                                obtain ⟨ad175, e175, hx175_0, hx175_1⟩ := at_T43 (Kd.R_reads' HO_4.out).2.2 x8_2 p175 q175
                                obtain rfl : ad173 = ad175 := (by injection e175)
                                replace p175 := eq_true p175
                                replace q175 := eq_true q175
                                have p176 : 0 ≤ ((ji102) : Int) := of_decide_eq_true (by first | (with_reducible assumption) | assumption)
                                have q176 : (ji102) < (l0.length : Int) := of_decide_eq_true (by first | (with_reducible assumption) | assumption)
                                obtain ⟨ad176, e176, hx176_0, hx176_1, hx176_2, hx176_3, hx176_4, hx176_5⟩ := at_T25 HR0.out (ji102) p176 q176
                                cases e176
                                replace hx176_0 := (HB.out.cell (World.block_lt_of_cell? w _ hx176_0)).trans hx176_0
                                replace hx176_1 := (HB.out.cell (World.block_lt_of_cell? w _ hx176_1)).trans hx176_1
                                replace hx176_2 := (HB.out.cell (World.block_lt_of_cell? w _ hx176_2)).trans hx176_2
                                replace hx176_3 := (HB.out.cell (World.block_lt_of_cell? w _ hx176_3)).trans hx176_3
                                replace hx176_4 := (HB.out.cell (World.block_lt_of_cell? w _ hx176_4)).trans hx176_4
                                replace hx176_5 := (HB.out.cell (World.block_lt_of_cell? w _ hx176_5)).trans hx176_5
                                replace p176 := eq_true p176
                                replace q176 := eq_true q176
                                have p177 : 0 ≤ (x8_2 : Int) := of_decide_eq_true (by first | (with_reducible assumption) | assumption)
                                have q177 : x8_2 < (t138.length : Int) := of_decide_eq_true (by first | (with_reducible assumption) | assumption)
                                obtain ⟨ad177, e177, hx177_0, hx177_1⟩ := at_T43 (Kd.R_reads' HO_4.out).2.2 x8_2 p177 q177
                                obtain rfl : ad173 = ad177 := (by injection e177)
                                replace p177 := eq_true p177
                                replace q177 := eq_true q177
                                go_wp2
                                repeat ((first | (refine stickfullaw21_IntrinsicCuts_quiet (by kernel_rfl) (by kernel_rfl) (by kernel_rfl) ?_; (try dsimp only [List.append]); (repeat (go_big_quiet_step (fail))); refine wpQuiet_nil ?_; intro _ hw'; obtain ⟨nq, hw''⟩ := hw'; subst hw'') | (refine stickfullaw21_IntrinsicCuts_quiet (by kernel_rfl) (by kernel_rfl) (by kernel_rfl) ?_; (try dsimp only [List.append]); (repeat (quiet_step (fail))); refine wpQuiet_nil ?_; intro _ hw'; obtain ⟨nq, hw''⟩ := hw'; subst hw'')); try go_wp2)
                                go_ret
                                try subst hrt
                                exact ⟨by first | rfl | (simp [errW_none, errW_some] <;> rfl) | (simp only [← hji102]; first | rfl | (simp [errW_none, errW_some] <;> rfl)) | (simp [*, errW_none, errW_some] <;> rfl), by repeat (first | (with_reducible first | exact HB.out | apply below_alloc | apply pw_below_drewN | apply below_drew1) | exact HB.out)⟩)
                        · rw [if_neg c104] at H
                          exact absurd H (by simp)
                      · rw [if_neg c103] at H
                        exact absurd H (by simp)
                · rw [if_neg c97] at H
                  exact absurd H (by simp)
              · rw [if_neg c96] at H
                have c96b0 : decide (x8_2 < (t138.length : Int)) = false := decide_eq_false c96
                clear c96
                by_cases c110 : x5_1 = (l0.length : Int)
                · rw [if_pos c110] at H
                  have c110b0 : (x5_1 == (l0.length : Int)) = true := beq_iff_eq.mpr c110
                  have c110b1 : (x5_1 != (l0.length : Int)) = false := bne_eq_false_iff_eq.mpr c110
                  clear c110
                  by_cases c111 : x6_1 = (t138.length : Int)
                  · rw [if_pos c111] at H
                    have c111b0 : (x6_1 == (t138.length : Int)) = true := beq_iff_eq.mpr c111
                    have c111b1 : (x6_1 != (t138.length : Int)) = false := bne_eq_false_iff_eq.mpr c111
                    clear c111
                    replace H := Option.bind_eq_some_iff.mp H
                    obtain ⟨t178, A1120, H⟩ := H
                    replace H : (some t178) = some true := H
                    have A112 := Aside0.mk A1120
                    clear A1120
                    have hrt := Option.some.inj H
                    first | exact absurd hrt (by decide) | skip
                    all_goals (
                      obtain ⟨Ao113, co113, eo113⟩ := Kd.R_slice HO_4.out
                      subst eo113
                      go_wp2_with (first | (go_at_call 22; (with_reducible refine (stickfullaw21_head.calls  t178 _ A112.out).mono ?_); rintro e w114 ⟨rfl, hb⟩; have n0_ := Aside0.mk (Kd.R_below (by (with_reducible repeat (first | apply Kd.R_alloc | apply Kd.R_drewN | apply Kd.R_drew)); exact HO_4.out) hb); have n1_ := Aside0.mk (below_step (by repeat (first | (with_reducible first | exact HB.out | apply below_alloc | apply pw_below_drewN | apply below_drew1) | exact HB.out)) hb); clear HO_4; clear HB; have HO_4 := n0_; have HB := n1_; clear n0_ n1_; (try clear hb); (try clear hb2); (try clear hk); (try clear hi)))
                      repeat ((first | (refine stickfullaw21_IntrinsicCuts_quiet (by kernel_rfl) (by kernel_rfl) (by kernel_rfl) ?_; (try dsimp only [List.append]); (repeat (go_big_quiet_step (first | (go_at_call 22; (with_reducible refine (stickfullaw21_head.calls  t178 _ A112.out).mono ?_); rintro e w114 ⟨rfl, hb⟩; have n0_ := Aside0.mk (Kd.R_below (by (with_reducible repeat (first | apply Kd.R_alloc | apply Kd.R_drewN | apply Kd.R_drew)); exact HO_4.out) hb); have n1_ := Aside0.mk (below_step (by repeat (first | (with_reducible first | exact HB.out | apply below_alloc | apply pw_below_drewN | apply below_drew1) | exact HB.out)) hb); clear HO_4; clear HB; have HO_4 := n0_; have HB := n1_; clear n0_ n1_; (try clear hb); (try clear hb2); (try clear hk); (try clear hi))))); refine wpQuiet_nil ?_; intro _ hw'; obtain ⟨nq, hw''⟩ := hw'; subst hw'') | (refine stickfullaw21_IntrinsicCuts_quiet (by kernel_rfl) (by kernel_rfl) (by kernel_rfl) ?_; (try dsimp only [List.append]); (repeat (quiet_step (first | (go_at_call 22; (with_reducible refine (stickfullaw21_head.calls  t178 _ A112.out).mono ?_); rintro e w114 ⟨rfl, hb⟩; have n0_ := Aside0.mk (Kd.R_below (by (with_reducible repeat (first | apply Kd.R_alloc | apply Kd.R_drewN | apply Kd.R_drew)); exact HO_4.out) hb); have n1_ := Aside0.mk (below_step (by repeat (first | (with_reducible first | exact HB.out | apply below_alloc | apply pw_below_drewN | apply below_drew1) | exact HB.out)) hb); clear HO_4; clear HB; have HO_4 := n0_; have HB := n1_; clear n0_ n1_; (try clear hb); (try clear hb2); (try clear hk); (try clear hi))))); refine wpQuiet_nil ?_; intro _ hw'; obtain ⟨nq, hw''⟩ := hw'; subst hw'')); try go_wp2_with (first | (go_at_call 22; (with_reducible refine (stickfullaw21_head.calls  t178 _ A112.out).mono ?_); rintro e w114 ⟨rfl, hb⟩; have n0_ := Aside0.mk (Kd.R_below (by (with_reducible repeat (first | apply Kd.R_alloc | apply Kd.R_drewN | apply Kd.R_drew)); exact HO_4.out) hb); have n1_ := Aside0.mk (below_step (by repeat (first | (with_reducible first | exact HB.out | apply below_alloc | apply pw_below_drewN | apply below_drew1) | exact HB.out)) hb); clear HO_4; clear HB; have HO_4 := n0_; have HB := n1_; clear n0_ n1_; (try clear hb); (try clear hb2); (try clear hk); (try clear hi))))
                      go_ret
                      try subst hrt
                      exact ⟨by first | rfl | (simp [errW_none, errW_some] <;> rfl) | (simp [*, errW_none, errW_some] <;> rfl), by repeat (first | (with_reducible first | exact HB.out | apply below_alloc | apply pw_below_drewN | apply below_drew1) | exact HB.out)⟩)
                  · rw [if_neg c111] at H
                    have c111b0 : (x6_1 == (t138.length : Int)) = false := beq_eq_false_iff_ne.mpr c111
                    have c111b1 : (x6_1 != (t138.length : Int)) = true := bne_iff_ne.mpr c111
                    have hrt := Option.some.inj H
                    first | exact absurd hrt (by decide) | skip
                    all_goals (
                      obtain ⟨Ao115, co115, eo115⟩ := Kd.R_slice HO_4.out
                      subst eo115
                      go_wp2
                      repeat ((first | (refine stickfullaw21_IntrinsicCuts_quiet (by kernel_rfl) (by kernel_rfl) (by kernel_rfl) ?_; (try dsimp only [List.append]); (repeat (go_big_quiet_step (fail))); refine wpQuiet_nil ?_; intro _ hw'; obtain ⟨nq, hw''⟩ := hw'; subst hw'') | (refine stickfullaw21_IntrinsicCuts_quiet (by kernel_rfl) (by kernel_rfl) (by kernel_rfl) ?_; (try dsimp only [List.append]); (repeat (quiet_step (fail))); refine wpQuiet_nil ?_; intro _ hw'; obtain ⟨nq, hw''⟩ := hw'; subst hw'')); try go_wp2)
                      go_ret
                      try subst hrt
                      exact ⟨by first | rfl | (simp [errW_none, errW_some] <;> rfl) | (simp [*, errW_none, errW_some] <;> rfl), by repeat (first | (with_reducible first | exact HB.out | apply below_alloc | apply pw_below_drewN | apply below_drew1) | exact HB.out)⟩)
                · rw [if_neg c110] at H
                  have c110b0 : (x5_1 == (l0.length : Int)) = false := beq_eq_false_iff_ne.mpr c110
                  have c110b1 : (x5_1 != (l0.length : Int)) = true := bne_iff_ne.mpr c110
                  have hrt := Option.some.inj H
                  first | exact absurd hrt (by decide) | skip
                  all_goals (
                    obtain ⟨Ao116, co116, eo116⟩ := Kd.R_slice HO_4.out
                    subst eo116
                    go_wp2
                    repeat ((first | (refine stickfullaw21_IntrinsicCuts_quiet (by kernel_rfl) (by kernel_rfl) (by kernel_rfl) ?_; (try dsimp only [List.append]); (repeat (go_big_quiet_step (fail))); refine wpQuiet_nil ?_; intro _ hw'; obtain ⟨nq, hw''⟩ := hw'; subst hw'') | (refine stickfullaw21_IntrinsicCuts_quiet (by kernel_rfl) (by kernel_rfl) (by kernel_rfl) ?_; (try dsimp only [List.append]); (repeat (quiet_step (fail))); refine wpQuiet_nil ?_; intro _ hw'; obtain ⟨nq, hw''⟩ := hw'; subst hw'')); try go_wp2)
                    go_ret
                    try subst hrt
                    exact ⟨by first | rfl | (simp [errW_none, errW_some] <;> rfl) | (simp [*, errW_none, errW_some] <;> rfl), by repeat (first | (with_reducible first | exact HB.out | apply below_alloc | apply pw_below_drewN | apply below_drew1) | exact HB.out)⟩)end Go.Proofs.Ytkcmehijmgjgfaa.MIntrinsicCuts
