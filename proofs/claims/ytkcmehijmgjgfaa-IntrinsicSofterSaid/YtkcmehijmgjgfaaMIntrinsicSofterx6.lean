-- Written by a program of this session for this claim.
import Derived.Test.YtkcmehijmgjgfaaMIntrinsicSofterx0
import Derived.Test.YtkcmehijmgjgfaaMIntrinsicSofterx4
import Derived.Test.YtkcmehijmgjgfaaMIntrinsicSofterx5
namespace Go.Proofs.Ytkcmehijmgjgfaa.MIntrinsicSofter
open Go.RowKit Go.Proofs.YtkcmehijmgjgfaaW.PrintWords Go.Proofs.YtkcmehijmgjgfaaW.PrintLast Go.Proofs.YtkcmehijmgjgfaaW.PrintMore
attribute [local go_sem] max2_int min2_int max_two min_two max_three min_three max_four min_four   -- for this text's walks alone
set_option linter.unusedVariables false
set_option linter.unusedSimpArgs false

attribute [local irreducible] Go.wpStill Go.wpQuiet
/-! ### stickfullaw21_IntrinsicSofter: function 5 -/
mutual
def stickfullaw21_IntrinsicSofter.j0 : Nat → List (S25) → Int → Int → Bool → Option (Bool)
  | 0, _, _, _, _ => none
  | k + 1, x0, x1, x2, x26 => if x26 = true then ((stickfullaw21_head.f).bind fun t134 => (some t134)) else (stickfullaw21_IntrinsicSofter.l0 k x0 x1 x2 0)
def stickfullaw21_IntrinsicSofter.l0 : Nat → List (S25) → Int → Int → Int → Option (Bool)
  | 0, _, _, _, _ => none
  | k + 1, x0, x1, x2, x7 => if x7 < (x0.length : Int) then (if 0 ≤ x7 then (if ((rd_T25 x0 x7).f3) < 0 then ((stickfullaw21_head.f).bind fun t136 => (some t136)) else (if ((rd_T25 x0 x7).f3) > 1099511627776 then ((stickfullaw21_head.f).bind fun t138 => (some t138)) else (stickfullaw21_IntrinsicSofter.l0 k x0 x1 x2 (wrap64 (x7 + 1))))) else (none)) else (if (x0.length : Int) = 0 then (none) else ((some (([] : List (S25)) : List (S25))).bind fun y139 => (if y139.length + x0.length < 3518437208883 then ((some (y139 ++ x0 : List (S25))).bind fun y142 => (if 0 ≤ (Int.tmod (wrap64 (x1)) (x0.length : Int)) then (if (Int.tmod (wrap64 (x1)) (x0.length : Int)) < (y142.length : Int) then ((some (y142.set ((Int.tmod (wrap64 (x1)) (x0.length : Int)) : Int).toNat (⟨(rd_T25 y142 (Int.tmod (wrap64 (x1)) (x0.length : Int))).f0, (rd_T25 y142 (Int.tmod (wrap64 (x1)) (x0.length : Int))).f1, (rd_T25 y142 (Int.tmod (wrap64 (x1)) (x0.length : Int))).f2, (rd_T25 y142 (Int.tmod (wrap64 (x1)) (x0.length : Int))).f3, true, (rd_T25 y142 (Int.tmod (wrap64 (x1)) (x0.length : Int))).f5⟩ : S25) : List (S25))).bind fun y145 => ((some (([] : List (S25)) : List (S25))).bind fun y146 => (if y146.length + x0.length < 3518437208883 then ((some (y146 ++ x0 : List (S25))).bind fun y149 => (if (Int.tmod (wrap64 (x1)) (x0.length : Int)) < (y149.length : Int) then (if ((rd_T25 y149 (Int.tmod (wrap64 (x1)) (x0.length : Int))).f0) = 4 then (stickfullaw21_IntrinsicSofter.j2 k x0 y145 y149) else (stickfullaw21_IntrinsicSofter.j2 k x0 y145 (y149.set ((Int.tmod (wrap64 (x1)) (x0.length : Int)) : Int).toNat (⟨(rd_T25 y149 (Int.tmod (wrap64 (x1)) (x0.length : Int))).f0, (rd_T25 y149 (Int.tmod (wrap64 (x1)) (x0.length : Int))).f1, (rd_T25 y149 (Int.tmod (wrap64 (x1)) (x0.length : Int))).f2, wrap64 (((rd_T25 y149 (Int.tmod (wrap64 (x1)) (x0.length : Int))).f3) + (wrap64 (x2))), (rd_T25 y149 (Int.tmod (wrap64 (x1)) (x0.length : Int))).f4, (rd_T25 y149 (Int.tmod (wrap64 (x1)) (x0.length : Int))).f5⟩ : S25)))) else (none))) else (none)))) else (none)) else (none))) else (none))))
def stickfullaw21_IntrinsicSofter.j2 : Nat → List (S25) → List (S25) → List (S25) → Option (Bool)
  | 0, _, _, _ => none
  | k + 1, x0, x9, x10 => (intrinsic_MinMax.f x0).bind fun bt155 => ((intrinsic_MinMax.f x9).bind fun bt158 => ((intrinsic_MinMax.f x10).bind fun bt161 => (if bt155.2.2 = 0 then (if bt158.2.2 = 0 then (if bt161.2.2 = 0 then (if bt158.1 ≤ bt155.1 then (if bt158.2.1 = bt155.2.1 then (if bt161.1 ≥ bt155.1 then (if bt161.2.1 ≥ bt155.2.1 then ((stickfullaw21_head.f).bind fun t164 => (some t164)) else (some false)) else (some false)) else (some false)) else (some false)) else (some false)) else (some false)) else (some false))))
end
def stickfullaw21_IntrinsicSofter.f (k : Nat) (l0 : List (S25)) (a1 : Int) (a2 : Int) : Option (Bool) := (stickfullaw21_great.f l0).bind fun t133 => (if t133 = true then (stickfullaw21_IntrinsicSofter.j0 k l0 a1 a2 true) else (stickfullaw21_IntrinsicSofter.j0 k l0 a1 a2 ((l0.length : Int) == 0)))
theorem stickfullaw21_IntrinsicSofter.mono_l : ∀ k, (∀ y0 y1 y2 y3, LeO (stickfullaw21_IntrinsicSofter.j0 k y0 y1 y2 y3) (stickfullaw21_IntrinsicSofter.j0 (k + 1) y0 y1 y2 y3)) ∧ (∀ y0 y1 y2 y3, LeO (stickfullaw21_IntrinsicSofter.l0 k y0 y1 y2 y3) (stickfullaw21_IntrinsicSofter.l0 (k + 1) y0 y1 y2 y3)) ∧ (∀ y0 y1 y2, LeO (stickfullaw21_IntrinsicSofter.j2 k y0 y1 y2) (stickfullaw21_IntrinsicSofter.j2 (k + 1) y0 y1 y2))
  | 0 => ⟨fun _ _ _ _ r h => by simp [stickfullaw21_IntrinsicSofter.j0] at h, fun _ _ _ _ r h => by simp [stickfullaw21_IntrinsicSofter.l0] at h, fun _ _ _ r h => by simp [stickfullaw21_IntrinsicSofter.j2] at h⟩
  | k + 1 => by
    obtain ⟨ih0, ih1, ih2⟩ := stickfullaw21_IntrinsicSofter.mono_l k
    refine ⟨?_, ?_, ?_⟩
    · intro y0 y1 y2 y3
      unfold stickfullaw21_IntrinsicSofter.j0
      repeat' first
      | (with_reducible exact ih0 _ _ _ _)
      | (with_reducible exact ih1 _ _ _ _)
      | (with_reducible exact ih2 _ _ _)
      | (with_reducible exact LeO.refl _)
      | (with_reducible exact LeO.none _)
      | (with_reducible refine LeO.ite ?_ ?_)
      | (with_reducible refine LeO.bind ?_ (fun _ => ?_))
      | exact ih0 _ _ _ _
      | exact ih1 _ _ _ _
      | exact ih2 _ _ _
      | exact LeO.none _
      | refine LeO.ite ?_ ?_
      | refine LeO.bind ?_ (fun _ => ?_)
    · intro y0 y1 y2 y3
      unfold stickfullaw21_IntrinsicSofter.l0
      repeat' first
      | (with_reducible exact ih0 _ _ _ _)
      | (with_reducible exact ih1 _ _ _ _)
      | (with_reducible exact ih2 _ _ _)
      | (with_reducible exact LeO.refl _)
      | (with_reducible exact LeO.none _)
      | (with_reducible refine LeO.ite ?_ ?_)
      | (with_reducible refine LeO.bind ?_ (fun _ => ?_))
      | exact ih0 _ _ _ _
      | exact ih1 _ _ _ _
      | exact ih2 _ _ _
      | exact LeO.none _
      | refine LeO.ite ?_ ?_
      | refine LeO.bind ?_ (fun _ => ?_)
    · intro y0 y1 y2
      unfold stickfullaw21_IntrinsicSofter.j2
      repeat' first
      | (with_reducible exact ih0 _ _ _ _)
      | (with_reducible exact ih1 _ _ _ _)
      | (with_reducible exact ih2 _ _ _)
      | (with_reducible exact LeO.refl _)
      | (with_reducible exact LeO.none _)
      | (with_reducible refine LeO.ite ?_ ?_)
      | (with_reducible refine LeO.bind ?_ (fun _ => ?_))
      | exact ih0 _ _ _ _
      | exact ih1 _ _ _ _
      | exact ih2 _ _ _
      | exact LeO.none _
      | refine LeO.ite ?_ ?_
      | refine LeO.bind ?_ (fun _ => ?_)
theorem stickfullaw21_IntrinsicSofter.mono : ∀ a0 a1 a2 k, LeO (stickfullaw21_IntrinsicSofter.f k a0 a1 a2) (stickfullaw21_IntrinsicSofter.f (k + 1) a0 a1 a2) := by
  intro a0 a1 a2 k
  obtain ⟨ih0, ih1, ih2⟩ := stickfullaw21_IntrinsicSofter.mono_l k
  unfold stickfullaw21_IntrinsicSofter.f
  repeat' first
      | (with_reducible exact ih0 _ _ _ _)
      | (with_reducible exact ih1 _ _ _ _)
      | (with_reducible exact ih2 _ _ _)
      | (with_reducible exact LeO.refl _)
      | (with_reducible exact LeO.none _)
      | (with_reducible refine LeO.ite ?_ ?_)
      | (with_reducible refine LeO.bind ?_ (fun _ => ?_))
      | exact ih0 _ _ _ _
      | exact ih1 _ _ _ _
      | exact ih2 _ _ _
      | exact LeO.none _
      | refine LeO.ite ?_ ?_
      | refine LeO.bind ?_ (fun _ => ?_)
set_option maxHeartbeats 8000000 in
set_option maxRecDepth 100000 in
theorem stickfullaw21_IntrinsicSofter.calls (k : Nat) (A0 : Option Addr) (c0 : Nat) (l0 : List (S25)) (a1 : Int) (a2 : Int) (_ : Bool) (w : World) (hr0 : Kd.C k25 w A0 l0.length l0) (hc0 : l0.length ≤ c0) (h : stickfullaw21_IntrinsicSofter.f k l0 a1 a2 = some true) :
    Calls Try.prog 5 #[.slice A0 l0.length c0, .int .u8 a1, .int .u16 a2] w fun e w' => e = .returned (.bool true) ∧ Below w.heap.size w w' := by
  have HR0 := Aside0.mk hr0
  have HC0 := Aside0.mk hc0
  clear hr0 hc0
  have HB := Aside0.mk (Below.refl w.heap.size w)
  have H : ((stickfullaw21_great.f l0).bind fun t133 => (if t133 = true then (stickfullaw21_IntrinsicSofter.j0 k l0 a1 a2 true) else (stickfullaw21_IntrinsicSofter.j0 k l0 a1 a2 ((l0.length : Int) == 0)))) = some true := h
  clear h
  have HC4 := Aside0.mk H
  clear H
  go_enter Try.func5, Try.ntmps5
  go_upto_region 1 with (fail)
  go_cut [26] (fun v26 wc => ∃ (kq : Nat) (x26_3 : Bool), v26 = .bool x26_3 ∧ Aside0 (stickfullaw21_IntrinsicSofter.j0 kq l0 a1 a2 x26_3 = some true) ∧ Aside0 (kq ≤ k) ∧ Aside0 (Below w.heap.size w wc))
  case first =>
    have H := HC4.out
    clear HC4
    replace H := Option.bind_eq_some_iff.mp H
    obtain ⟨t133, A50, H⟩ := H
    replace H : (if t133 = true then (stickfullaw21_IntrinsicSofter.j0 k l0 a1 a2 true) else (stickfullaw21_IntrinsicSofter.j0 k l0 a1 a2 ((l0.length : Int) == 0))) = some true := H
    have A5 := Aside0.mk A50
    clear A50
    by_cases c6 : t133 = true
    · subst c6
      have H1 : (stickfullaw21_IntrinsicSofter.j0 k l0 a1 a2 true) = some true := by rw [if_pos rfl] at H; exact H
      clear H
      have H := H1
      clear H1
      have H' := Aside0.mk H
      clear H
      go_wp2_with (first | ((with_reducible refine gate_callee (f := 24) rfl ?_); refine goesL_ (some 21) rfl rfl Try.func24 (by kernel_rfl) rfl #[.slice A0 l0.length c0] rfl (by (try simp only [List.map_toArray, List.map_cons, List.map_nil]); first | done | rfl | (simp only [List.length_drop, List.length_take]; rfl)) ?_; (with_reducible refine (stickfullaw21_great.calls _ _ l0 true _ ?side1 ?side2 A5.out).mono ?_); (case side1 => repeat (first | exact (Kd.C_below HR0.out HB.out) | (with_reducible refine Kd.C_alloc ?_ _) | (with_reducible refine Kd.C_drewN ?_ _) | (with_reducible refine Kd.C_drew ?_))); (case side2 => exact HC0.out); rintro e w' ⟨rfl, ⟨nd, rfl⟩⟩; refine ⟨_, rfl, ?_⟩))
      go_meet
      case rel => exact ⟨_, (true), (by first | rfl | (simp; done) | (simp [*]; done)), H', ⟨by first | omega | exact Nat.le_refl _⟩, ⟨by repeat (first | (with_reducible first | exact HB.out | apply below_alloc | apply pw_below_drewN | apply below_drew1) | exact HB.out)⟩⟩
    · replace c6 := Bool.eq_false_iff.mpr c6
      subst c6
      have H1 : (stickfullaw21_IntrinsicSofter.j0 k l0 a1 a2 ((l0.length : Int) == 0)) = some true := by rw [if_neg (show ¬ (false = true) by decide)] at H; exact H
      clear H
      have H := H1
      clear H1
      have H' := Aside0.mk H
      clear H
      go_wp2_with (first | ((with_reducible refine gate_callee (f := 24) rfl ?_); refine goesL_ (some 21) rfl rfl Try.func24 (by kernel_rfl) rfl #[.slice A0 l0.length c0] rfl (by (try simp only [List.map_toArray, List.map_cons, List.map_nil]); first | done | rfl | (simp only [List.length_drop, List.length_take]; rfl)) ?_; (with_reducible refine (stickfullaw21_great.calls _ _ l0 false _ ?side1 ?side2 A5.out).mono ?_); (case side1 => repeat (first | exact (Kd.C_below HR0.out HB.out) | (with_reducible refine Kd.C_alloc ?_ _) | (with_reducible refine Kd.C_drewN ?_ _) | (with_reducible refine Kd.C_drew ?_))); (case side2 => exact HC0.out); rintro e w' ⟨rfl, ⟨nd, rfl⟩⟩; refine ⟨_, rfl, ?_⟩))
      go_meet
      case rel => exact ⟨_, (((l0.length : Int) == 0)), (by first | rfl | (simp; done) | (simp [*]; done)), H', ⟨by first | omega | exact Nat.le_refl _⟩, ⟨by repeat (first | (with_reducible first | exact HB.out | apply below_alloc | apply pw_below_drewN | apply below_drew1) | exact HB.out)⟩⟩
  case rest =>
    clear HC4
    try clear c2
    try clear p2
    try clear c5
    try clear c6
    obtain ⟨kq, x26_3, rfl, HA, HJ3, HB⟩ := hcut
    cases kq with
    | zero => exact absurd HA.out (by simp [stickfullaw21_IntrinsicSofter.j0])
    | succ kj3 =>
      have H := HA.out
      clear HA
      simp only [stickfullaw21_IntrinsicSofter.j0] at H
      by_cases c7 : x26_3 = true
      · subst c7
        have H1 : ((stickfullaw21_head.f).bind fun t134 => (some t134)) = some true := by rw [if_pos rfl] at H; exact H
        clear H
        have H := H1
        clear H1
        replace H := Option.bind_eq_some_iff.mp H
        obtain ⟨t134, A80, H⟩ := H
        replace H : (some t134) = some true := H
        have A8 := Aside0.mk A80
        clear A80
        have hrt := Option.some.inj H
        first | exact absurd hrt (by decide) | skip
        all_goals (
          go_wp2_with (first | ((with_reducible refine gate_callee (f := 22) rfl ?_); refine goesL_ (some 27) rfl rfl Try.func22 (by kernel_rfl) rfl #[] rfl (by (try simp only [List.map_toArray, List.map_cons, List.map_nil]); first | done | rfl | (simp only [List.length_drop, List.length_take]; rfl)) ?_; (with_reducible refine (stickfullaw21_head.calls  t134 _ A8.out).mono ?_); rintro e w9 ⟨rfl, hb⟩; refine ⟨_, rfl, ?_⟩; have n0_ := Aside0.mk (below_step (by repeat (first | (with_reducible first | exact HB.out | apply below_alloc | apply pw_below_drewN | apply below_drew1) | exact HB.out)) hb); clear HB; have HB := n0_; clear n0_; (try clear hb); (try clear hb2); (try clear hk); (try clear hi)))
          go_ret
          try subst hrt
          exact ⟨by first | rfl | (simp [errW_none, errW_some] <;> rfl) | (simp [*, errW_none, errW_some] <;> rfl), by repeat (first | (with_reducible first | exact HB.out | apply below_alloc | apply pw_below_drewN | apply below_drew1) | exact HB.out)⟩)
      · replace c7 := Bool.eq_false_iff.mpr c7
        subst c7
        have H1 : (stickfullaw21_IntrinsicSofter.l0 kj3 l0 a1 a2 0) = some true := by rw [if_neg (show ¬ (false = true) by decide)] at H; exact H
        clear H
        have H := H1
        clear H1
        have H' := Aside0.mk H
        clear H
        go_wp2
        go_loopg [7] kj3 (fun kq v7 w' => ∃ (x7_2 : Int), v7 = .int .i64 x7_2 ∧ Aside0 (stickfullaw21_IntrinsicSofter.l0 kq l0 a1 a2 x7_2 = some true) ∧ Aside0 (kq ≤ kj3) ∧ Aside0 (Below w.heap.size w w'))
        case atStart => exact ⟨(0), (by first | rfl | (simp; done) | (simp [*]; done)), H', ⟨Nat.le_refl _⟩, ⟨by repeat (first | (with_reducible first | exact HB.out | apply below_alloc | apply pw_below_drewN | apply below_drew1) | exact HB.out)⟩⟩
        case round =>
          clear H'
          try clear c2
          try clear p2
          try clear c5
          try clear c6
          try clear c7
          try clear p2
          obtain ⟨x7_2, rfl, HA, HK2, HB⟩ := hrel
          cases gk with
          | zero => exact absurd HA.out (by simp [stickfullaw21_IntrinsicSofter.l0])
          | succ k2 =>
            have H := HA.out
            clear HA
            simp only [stickfullaw21_IntrinsicSofter.l0] at H
            by_cases c10 : x7_2 < (l0.length : Int)
            · rw [if_pos c10] at H
              have c10b0 : decide (x7_2 < (l0.length : Int)) = true := decide_eq_true c10
              clear c10
              by_cases c11 : 0 ≤ x7_2
              · rw [if_pos c11] at H
                have c11b0 : decide (0 ≤ x7_2) = true := decide_eq_true c11
                clear c11
                by_cases c12 : ((rd_T25 l0 x7_2).f3) < 0
                · rw [if_pos c12] at H
                  have c12b0 : decide (((rd_T25 l0 x7_2).f3) < 0) = true := decide_eq_true c12
                  clear c12
                  replace H := Option.bind_eq_some_iff.mp H
                  obtain ⟨t136, A130, H⟩ := H
                  replace H : (some t136) = some true := H
                  have A13 := Aside0.mk A130
                  clear A130
                  have hrt := Option.some.inj H
                  first | exact absurd hrt (by decide) | skip
                  all_goals (
                    have p135 : 0 ≤ (x7_2 : Int) := of_decide_eq_true (by first | (with_reducible assumption) | assumption)
                    have q135 : x7_2 < (l0.length : Int) := of_decide_eq_true (by first | (with_reducible assumption) | assumption)
                    obtain ⟨ad135, e135, hx135_0, hx135_1, hx135_2, hx135_3, hx135_4, hx135_5⟩ := at_T25 HR0.out x7_2 p135 q135
                    cases e135
                    replace hx135_0 := (HB.out.cell (World.block_lt_of_cell? w _ hx135_0)).trans hx135_0
                    replace hx135_1 := (HB.out.cell (World.block_lt_of_cell? w _ hx135_1)).trans hx135_1
                    replace hx135_2 := (HB.out.cell (World.block_lt_of_cell? w _ hx135_2)).trans hx135_2
                    replace hx135_3 := (HB.out.cell (World.block_lt_of_cell? w _ hx135_3)).trans hx135_3
                    replace hx135_4 := (HB.out.cell (World.block_lt_of_cell? w _ hx135_4)).trans hx135_4
                    replace hx135_5 := (HB.out.cell (World.block_lt_of_cell? w _ hx135_5)).trans hx135_5
                    replace p135 := eq_true p135
                    replace q135 := eq_true q135
                    go_wp2_with (first | ((with_reducible refine gate_callee (f := 22) rfl ?_); refine goesL_ (some 48) rfl rfl Try.func22 (by kernel_rfl) rfl #[] rfl (by (try simp only [List.map_toArray, List.map_cons, List.map_nil]); first | done | rfl | (simp only [List.length_drop, List.length_take]; rfl)) ?_; (with_reducible refine (stickfullaw21_head.calls  t136 _ A13.out).mono ?_); rintro e w14 ⟨rfl, hb⟩; refine ⟨_, rfl, ?_⟩; have n0_ := Aside0.mk (below_step (by repeat (first | (with_reducible first | exact HB.out | apply below_alloc | apply pw_below_drewN | apply below_drew1) | exact HB.out)) hb); clear HB; have HB := n0_; clear n0_; (try clear hb); (try clear hb2); (try clear hk); (try clear hi)))
                    go_ret
                    try subst hrt
                    exact ⟨by first | rfl | (simp [errW_none, errW_some] <;> rfl) | (simp [*, errW_none, errW_some] <;> rfl), by repeat (first | (with_reducible first | exact HB.out | apply below_alloc | apply pw_below_drewN | apply below_drew1) | exact HB.out)⟩)
                · rw [if_neg c12] at H
                  have c12b0 : decide (((rd_T25 l0 x7_2).f3) < 0) = false := decide_eq_false c12
                  clear c12
                  by_cases c15 : ((rd_T25 l0 x7_2).f3) > 1099511627776
                  · rw [if_pos c15] at H
                    have c15b0 : decide (1099511627776 < ((rd_T25 l0 x7_2).f3)) = true := decide_eq_true c15
                    clear c15
                    replace H := Option.bind_eq_some_iff.mp H
                    obtain ⟨t138, A160, H⟩ := H
                    replace H : (some t138) = some true := H
                    have A16 := Aside0.mk A160
                    clear A160
                    have hrt := Option.some.inj H
                    first | exact absurd hrt (by decide) | skip
                    all_goals (
                      have p135 : 0 ≤ (x7_2 : Int) := of_decide_eq_true (by first | (with_reducible assumption) | assumption)
                      have q135 : x7_2 < (l0.length : Int) := of_decide_eq_true (by first | (with_reducible assumption) | assumption)
                      obtain ⟨ad135, e135, hx135_0, hx135_1, hx135_2, hx135_3, hx135_4, hx135_5⟩ := at_T25 HR0.out x7_2 p135 q135
                      cases e135
                      replace hx135_0 := (HB.out.cell (World.block_lt_of_cell? w _ hx135_0)).trans hx135_0
                      replace hx135_1 := (HB.out.cell (World.block_lt_of_cell? w _ hx135_1)).trans hx135_1
                      replace hx135_2 := (HB.out.cell (World.block_lt_of_cell? w _ hx135_2)).trans hx135_2
                      replace hx135_3 := (HB.out.cell (World.block_lt_of_cell? w _ hx135_3)).trans hx135_3
                      replace hx135_4 := (HB.out.cell (World.block_lt_of_cell? w _ hx135_4)).trans hx135_4
                      replace hx135_5 := (HB.out.cell (World.block_lt_of_cell? w _ hx135_5)).trans hx135_5
                      replace p135 := eq_true p135
                      replace q135 := eq_true q135
                      have p137 : 0 ≤ (x7_2 : Int) := of_decide_eq_true (by first | (with_reducible assumption) | assumption)
                      have q137 : x7_2 < (l0.length : Int) := of_decide_eq_true (by first | (with_reducible assumption) | assumption)
                      obtain ⟨ad137, e137, hx137_0, hx137_1, hx137_2, hx137_3, hx137_4, hx137_5⟩ := at_T25 HR0.out x7_2 p137 q137
                      obtain rfl : ad135 = ad137 := (by injection e137)
                      replace hx137_0 := (HB.out.cell (World.block_lt_of_cell? w _ hx137_0)).trans hx137_0
                      replace hx137_1 := (HB.out.cell (World.block_lt_of_cell? w _ hx137_1)).trans hx137_1
                      replace hx137_2 := (HB.out.cell (World.block_lt_of_cell? w _ hx137_2)).trans hx137_2
                      replace hx137_3 := (HB.out.cell (World.block_lt_of_cell? w _ hx137_3)).trans hx137_3
                      replace hx137_4 := (HB.out.cell (World.block_lt_of_cell? w _ hx137_4)).trans hx137_4
                      replace hx137_5 := (HB.out.cell (World.block_lt_of_cell? w _ hx137_5)).trans hx137_5
                      replace p137 := eq_true p137
                      replace q137 := eq_true q137
                      go_wp2_with (first | ((with_reducible refine gate_callee (f := 22) rfl ?_); refine goesL_ (some 48) rfl rfl Try.func22 (by kernel_rfl) rfl #[] rfl (by (try simp only [List.map_toArray, List.map_cons, List.map_nil]); first | done | rfl | (simp only [List.length_drop, List.length_take]; rfl)) ?_; (with_reducible refine (stickfullaw21_head.calls  t138 _ A16.out).mono ?_); rintro e w17 ⟨rfl, hb⟩; refine ⟨_, rfl, ?_⟩; have n0_ := Aside0.mk (below_step (by repeat (first | (with_reducible first | exact HB.out | apply below_alloc | apply pw_below_drewN | apply below_drew1) | exact HB.out)) hb); clear HB; have HB := n0_; clear n0_; (try clear hb); (try clear hb2); (try clear hk); (try clear hi)))
                      go_ret
                      try subst hrt
                      exact ⟨by first | rfl | (simp [errW_none, errW_some] <;> rfl) | (simp [*, errW_none, errW_some] <;> rfl), by repeat (first | (with_reducible first | exact HB.out | apply below_alloc | apply pw_below_drewN | apply below_drew1) | exact HB.out)⟩)
                  · rw [if_neg c15] at H
                    have c15b0 : decide (1099511627776 < ((rd_T25 l0 x7_2).f3)) = false := decide_eq_false c15
                    clear c15
                    have H' := Aside0.mk H
                    clear H
                    have p135 : 0 ≤ (x7_2 : Int) := of_decide_eq_true (by first | (with_reducible assumption) | assumption)
                    have q135 : x7_2 < (l0.length : Int) := of_decide_eq_true (by first | (with_reducible assumption) | assumption)
                    obtain ⟨ad135, e135, hx135_0, hx135_1, hx135_2, hx135_3, hx135_4, hx135_5⟩ := at_T25 HR0.out x7_2 p135 q135
                    cases e135
                    replace hx135_0 := (HB.out.cell (World.block_lt_of_cell? w _ hx135_0)).trans hx135_0
                    replace hx135_1 := (HB.out.cell (World.block_lt_of_cell? w _ hx135_1)).trans hx135_1
                    replace hx135_2 := (HB.out.cell (World.block_lt_of_cell? w _ hx135_2)).trans hx135_2
                    replace hx135_3 := (HB.out.cell (World.block_lt_of_cell? w _ hx135_3)).trans hx135_3
                    replace hx135_4 := (HB.out.cell (World.block_lt_of_cell? w _ hx135_4)).trans hx135_4
                    replace hx135_5 := (HB.out.cell (World.block_lt_of_cell? w _ hx135_5)).trans hx135_5
                    replace p135 := eq_true p135
                    replace q135 := eq_true q135
                    have p137 : 0 ≤ (x7_2 : Int) := of_decide_eq_true (by first | (with_reducible assumption) | assumption)
                    have q137 : x7_2 < (l0.length : Int) := of_decide_eq_true (by first | (with_reducible assumption) | assumption)
                    obtain ⟨ad137, e137, hx137_0, hx137_1, hx137_2, hx137_3, hx137_4, hx137_5⟩ := at_T25 HR0.out x7_2 p137 q137
                    obtain rfl : ad135 = ad137 := (by injection e137)
                    replace hx137_0 := (HB.out.cell (World.block_lt_of_cell? w _ hx137_0)).trans hx137_0
                    replace hx137_1 := (HB.out.cell (World.block_lt_of_cell? w _ hx137_1)).trans hx137_1
                    replace hx137_2 := (HB.out.cell (World.block_lt_of_cell? w _ hx137_2)).trans hx137_2
                    replace hx137_3 := (HB.out.cell (World.block_lt_of_cell? w _ hx137_3)).trans hx137_3
                    replace hx137_4 := (HB.out.cell (World.block_lt_of_cell? w _ hx137_4)).trans hx137_4
                    replace hx137_5 := (HB.out.cell (World.block_lt_of_cell? w _ hx137_5)).trans hx137_5
                    replace p137 := eq_true p137
                    replace q137 := eq_true q137
                    go_wp2
                    go_roundg k2
                    case measure => have := HJ3.out; have := HK2.out; omega
                    case rel => exact ⟨(wrap64 (x7_2 + 1)), (by first | rfl | (simp; done) | (simp [*]; done)), H', ⟨by have := HJ3.out; have := HK2.out; omega⟩, ⟨by repeat (first | (with_reducible first | exact HB.out | apply below_alloc | apply pw_below_drewN | apply below_drew1) | exact HB.out)⟩⟩
              · rw [if_neg c11] at H
                exact absurd H (by simp)
            · rw [if_neg c10] at H
              have c10b0 : decide (x7_2 < (l0.length : Int)) = false := decide_eq_false c10
              clear c10
              by_cases c18 : (l0.length : Int) = 0
              · rw [if_pos c18] at H
                exact absurd H (by simp)
              · rw [if_neg c18] at H
                have c18b0 : ((l0.length : Int) == 0) = false := beq_eq_false_iff_ne.mpr c18
                have c18b1 : ((l0.length : Int) != 0) = true := bne_iff_ne.mpr c18
                have c18b2 : ¬ (l0 = []) := fun h_ => c18 (by rw [h_]; rfl)
                obtain ⟨y139, hy139⟩ : ∃ y_ : List (S25), y_ = (([] : List (S25))) := ⟨_, rfl⟩
                replace H : (if y139.length + l0.length < 3518437208883 then ((some (y139 ++ l0 : List (S25))).bind fun y142 => (if 0 ≤ (Int.tmod (wrap64 (a1)) (l0.length : Int)) then (if (Int.tmod (wrap64 (a1)) (l0.length : Int)) < (y142.length : Int) then ((some (y142.set ((Int.tmod (wrap64 (a1)) (l0.length : Int)) : Int).toNat (⟨(rd_T25 y142 (Int.tmod (wrap64 (a1)) (l0.length : Int))).f0, (rd_T25 y142 (Int.tmod (wrap64 (a1)) (l0.length : Int))).f1, (rd_T25 y142 (Int.tmod (wrap64 (a1)) (l0.length : Int))).f2, (rd_T25 y142 (Int.tmod (wrap64 (a1)) (l0.length : Int))).f3, true, (rd_T25 y142 (Int.tmod (wrap64 (a1)) (l0.length : Int))).f5⟩ : S25) : List (S25))).bind fun y145 => ((some (([] : List (S25)) : List (S25))).bind fun y146 => (if y146.length + l0.length < 3518437208883 then ((some (y146 ++ l0 : List (S25))).bind fun y149 => (if (Int.tmod (wrap64 (a1)) (l0.length : Int)) < (y149.length : Int) then (if ((rd_T25 y149 (Int.tmod (wrap64 (a1)) (l0.length : Int))).f0) = 4 then (stickfullaw21_IntrinsicSofter.j2 k2 l0 y145 y149) else (stickfullaw21_IntrinsicSofter.j2 k2 l0 y145 (y149.set ((Int.tmod (wrap64 (a1)) (l0.length : Int)) : Int).toNat (⟨(rd_T25 y149 (Int.tmod (wrap64 (a1)) (l0.length : Int))).f0, (rd_T25 y149 (Int.tmod (wrap64 (a1)) (l0.length : Int))).f1, (rd_T25 y149 (Int.tmod (wrap64 (a1)) (l0.length : Int))).f2, wrap64 (((rd_T25 y149 (Int.tmod (wrap64 (a1)) (l0.length : Int))).f3) + (wrap64 (a2))), (rd_T25 y149 (Int.tmod (wrap64 (a1)) (l0.length : Int))).f4, (rd_T25 y149 (Int.tmod (wrap64 (a1)) (l0.length : Int))).f5⟩ : S25)))) else (none))) else (none)))) else (none)) else (none))) else (none)) = some true := by first | (rw [hy139]; with_reducible exact H) | (have H2_ := (Option.bind_some _ _).symm.trans H; rw [hy139]; with_reducible exact H2_) | (have H2_ := (Option.bind_some _ _).symm.trans H; with_reducible exact H2_) | with_reducible exact H | (rw [hy139]; exact H) | exact H
                have Ny139 := Aside0.mk hy139
                clear hy139
                by_cases c19 : y139.length + l0.length < 3518437208883
                · rw [if_pos c19] at H
                  have LMc19 := Aside0.mk c19
                  clear c19
                  obtain ⟨y142, hy142⟩ : ∃ y_ : List (S25), y_ = (y139 ++ l0) := ⟨_, rfl⟩
                  replace H : (if 0 ≤ (Int.tmod (wrap64 (a1)) (l0.length : Int)) then (if (Int.tmod (wrap64 (a1)) (l0.length : Int)) < (y142.length : Int) then ((some (y142.set ((Int.tmod (wrap64 (a1)) (l0.length : Int)) : Int).toNat (⟨(rd_T25 y142 (Int.tmod (wrap64 (a1)) (l0.length : Int))).f0, (rd_T25 y142 (Int.tmod (wrap64 (a1)) (l0.length : Int))).f1, (rd_T25 y142 (Int.tmod (wrap64 (a1)) (l0.length : Int))).f2, (rd_T25 y142 (Int.tmod (wrap64 (a1)) (l0.length : Int))).f3, true, (rd_T25 y142 (Int.tmod (wrap64 (a1)) (l0.length : Int))).f5⟩ : S25) : List (S25))).bind fun y145 => ((some (([] : List (S25)) : List (S25))).bind fun y146 => (if y146.length + l0.length < 3518437208883 then ((some (y146 ++ l0 : List (S25))).bind fun y149 => (if (Int.tmod (wrap64 (a1)) (l0.length : Int)) < (y149.length : Int) then (if ((rd_T25 y149 (Int.tmod (wrap64 (a1)) (l0.length : Int))).f0) = 4 then (stickfullaw21_IntrinsicSofter.j2 k2 l0 y145 y149) else (stickfullaw21_IntrinsicSofter.j2 k2 l0 y145 (y149.set ((Int.tmod (wrap64 (a1)) (l0.length : Int)) : Int).toNat (⟨(rd_T25 y149 (Int.tmod (wrap64 (a1)) (l0.length : Int))).f0, (rd_T25 y149 (Int.tmod (wrap64 (a1)) (l0.length : Int))).f1, (rd_T25 y149 (Int.tmod (wrap64 (a1)) (l0.length : Int))).f2, wrap64 (((rd_T25 y149 (Int.tmod (wrap64 (a1)) (l0.length : Int))).f3) + (wrap64 (a2))), (rd_T25 y149 (Int.tmod (wrap64 (a1)) (l0.length : Int))).f4, (rd_T25 y149 (Int.tmod (wrap64 (a1)) (l0.length : Int))).f5⟩ : S25)))) else (none))) else (none)))) else (none)) else (none)) = some true := by first | (rw [hy142]; with_reducible exact H) | (have H2_ := (Option.bind_some _ _).symm.trans H; rw [hy142]; with_reducible exact H2_) | (have H2_ := (Option.bind_some _ _).symm.trans H; with_reducible exact H2_) | with_reducible exact H | (rw [hy142]; exact H) | exact H
                  have Ny142 := Aside0.mk hy142
                  clear hy142
                  obtain ⟨ji20, hji20⟩ : ∃ j_ : Int, (Int.tmod (wrap64 (a1)) (l0.length : Int)) = j_ := ⟨_, rfl⟩
                  replace H : (if 0 ≤ (ji20) then (if (ji20) < (y142.length : Int) then ((some (y142.set ((ji20) : Int).toNat (⟨(rd_T25 y142 (ji20)).f0, (rd_T25 y142 (ji20)).f1, (rd_T25 y142 (ji20)).f2, (rd_T25 y142 (ji20)).f3, true, (rd_T25 y142 (ji20)).f5⟩ : S25) : List (S25))).bind fun y145 => ((some (([] : List (S25)) : List (S25))).bind fun y146 => (if y146.length + l0.length < 3518437208883 then ((some (y146 ++ l0 : List (S25))).bind fun y149 => (if (ji20) < (y149.length : Int) then (if ((rd_T25 y149 (ji20)).f0) = 4 then (stickfullaw21_IntrinsicSofter.j2 k2 l0 y145 y149) else (stickfullaw21_IntrinsicSofter.j2 k2 l0 y145 (y149.set ((ji20) : Int).toNat (⟨(rd_T25 y149 (ji20)).f0, (rd_T25 y149 (ji20)).f1, (rd_T25 y149 (ji20)).f2, wrap64 (((rd_T25 y149 (ji20)).f3) + (wrap64 (a2))), (rd_T25 y149 (ji20)).f4, (rd_T25 y149 (ji20)).f5⟩ : S25)))) else (none))) else (none)))) else (none)) else (none)) = some true := by first | (rw [hji20] at H; exact H) | (simp only [hji20] at H ⊢; exact H)
                  by_cases c21 : 0 ≤ (ji20)
                  · rw [if_pos c21] at H
                    have c21b0 : decide (0 ≤ (ji20)) = true := decide_eq_true c21
                    clear c21
                    by_cases c22 : (ji20) < (y142.length : Int)
                    · rw [if_pos c22] at H
                      have c22b0 : decide ((ji20) < (y142.length : Int)) = true := decide_eq_true c22
                      clear c22
                      obtain ⟨y145, hy145⟩ : ∃ y_ : List (S25), y_ = (y142.set ((ji20) : Int).toNat (⟨(rd_T25 y142 (ji20)).f0, (rd_T25 y142 (ji20)).f1, (rd_T25 y142 (ji20)).f2, (rd_T25 y142 (ji20)).f3, true, (rd_T25 y142 (ji20)).f5⟩ : S25)) := ⟨_, rfl⟩
                      replace H : ((some (([] : List (S25)) : List (S25))).bind fun y146 => (if y146.length + l0.length < 3518437208883 then ((some (y146 ++ l0 : List (S25))).bind fun y149 => (if (ji20) < (y149.length : Int) then (if ((rd_T25 y149 (ji20)).f0) = 4 then (stickfullaw21_IntrinsicSofter.j2 k2 l0 y145 y149) else (stickfullaw21_IntrinsicSofter.j2 k2 l0 y145 (y149.set ((ji20) : Int).toNat (⟨(rd_T25 y149 (ji20)).f0, (rd_T25 y149 (ji20)).f1, (rd_T25 y149 (ji20)).f2, wrap64 (((rd_T25 y149 (ji20)).f3) + (wrap64 (a2))), (rd_T25 y149 (ji20)).f4, (rd_T25 y149 (ji20)).f5⟩ : S25)))) else (none))) else (none))) = some true := by first | (rw [hy145]; with_reducible exact H) | (have H2_ := (Option.bind_some _ _).symm.trans H; rw [hy145]; with_reducible exact H2_) | (have H2_ := (Option.bind_some _ _).symm.trans H; with_reducible exact H2_) | with_reducible exact H | (rw [hy145]; exact H) | exact H
                      have Ny145 := Aside0.mk hy145
                      clear hy145
                      obtain ⟨y146, hy146⟩ : ∃ y_ : List (S25), y_ = (([] : List (S25))) := ⟨_, rfl⟩
                      replace H : (if y146.length + l0.length < 3518437208883 then ((some (y146 ++ l0 : List (S25))).bind fun y149 => (if (ji20) < (y149.length : Int) then (if ((rd_T25 y149 (ji20)).f0) = 4 then (stickfullaw21_IntrinsicSofter.j2 k2 l0 y145 y149) else (stickfullaw21_IntrinsicSofter.j2 k2 l0 y145 (y149.set ((ji20) : Int).toNat (⟨(rd_T25 y149 (ji20)).f0, (rd_T25 y149 (ji20)).f1, (rd_T25 y149 (ji20)).f2, wrap64 (((rd_T25 y149 (ji20)).f3) + (wrap64 (a2))), (rd_T25 y149 (ji20)).f4, (rd_T25 y149 (ji20)).f5⟩ : S25)))) else (none))) else (none)) = some true := by first | (rw [hy146]; with_reducible exact H) | (have H2_ := (Option.bind_some _ _).symm.trans H; rw [hy146]; with_reducible exact H2_) | (have H2_ := (Option.bind_some _ _).symm.trans H; with_reducible exact H2_) | with_reducible exact H | (rw [hy146]; exact H) | exact H
                      have Ny146 := Aside0.mk hy146
                      clear hy146
                      by_cases c24 : y146.length + l0.length < 3518437208883
                      · rw [if_pos c24] at H
                        have LMc24 := Aside0.mk c24
                        clear c24
                        obtain ⟨y149, hy149⟩ : ∃ y_ : List (S25), y_ = (y146 ++ l0) := ⟨_, rfl⟩
                        replace H : (if (ji20) < (y149.length : Int) then (if ((rd_T25 y149 (ji20)).f0) = 4 then (stickfullaw21_IntrinsicSofter.j2 k2 l0 y145 y149) else (stickfullaw21_IntrinsicSofter.j2 k2 l0 y145 (y149.set ((ji20) : Int).toNat (⟨(rd_T25 y149 (ji20)).f0, (rd_T25 y149 (ji20)).f1, (rd_T25 y149 (ji20)).f2, wrap64 (((rd_T25 y149 (ji20)).f3) + (wrap64 (a2))), (rd_T25 y149 (ji20)).f4, (rd_T25 y149 (ji20)).f5⟩ : S25)))) else (none)) = some true := by first | (rw [hy149]; with_reducible exact H) | (have H2_ := (Option.bind_some _ _).symm.trans H; rw [hy149]; with_reducible exact H2_) | (have H2_ := (Option.bind_some _ _).symm.trans H; with_reducible exact H2_) | with_reducible exact H | (rw [hy149]; exact H) | exact H
                        have Ny149 := Aside0.mk hy149
                        clear hy149
                        by_cases c25 : (ji20) < (y149.length : Int)
                        · rw [if_pos c25] at H
                          have c25b0 : decide ((ji20) < (y149.length : Int)) = true := decide_eq_true c25
                          clear c25
                          have HC26 := Aside0.mk H
                          clear H
                          go_upto_if 69 with (first | ((with_reducible refine gate_dst (N := 54) rfl ?_); (try (refine gate_guard (by rfl) ?_; dsimp only)); refine Kd.R_lit k25 _ 25 ?hg (N := 54) ?hd (xs := ([] : List (S25))) (inner := []) (ok := fun _ => True) (okp := fun _ => True) ?hr ?hp (fun _ hk => hk) trivial (Below.refl _ _) (Nat.le_refl _) (by simp) ?_; (case hd => rfl); (case hg => rfl); (case hr => first | (go_simp; done) | (go_simp; rfl)); (case hp => exact (Reps.none _ _)); intro v140 w27 ho28 hb hg_ hnew_; clear hg_ hnew_; (first | rw [← Ny139.out] at ho28 | (simp only [Int.reduceToNat] at ho28; rw [← Ny139.out] at ho28)); have n0_ := Aside0.mk (Kd.R_lower ho28 (below_size (by repeat (first | (with_reducible first | exact HB.out | apply below_alloc | apply pw_below_drewN | apply below_drew1) | exact HB.out)))); have n1_ := Aside0.mk (below_step (by repeat (first | (with_reducible first | exact HB.out | apply below_alloc | apply pw_below_drewN | apply below_drew1) | exact HB.out)) hb); clear HB; have HO141 := n0_; have HB := n1_; clear n0_ n1_; clear hb ho28) | ((with_reducible refine gate_builtin (b := .append) (xs := #[.tmp 54, .tmp 55]) rfl ?_); (try (refine gate_guard (by rfl) ?_; dsimp only)); at_builtin; refine Kd.R_append_rows k25 (w0 := w) w.heap.size rfl (.tmp 54) (.tmp 55) 22 25 (.agg #[(.int .u8 0), (.int .i64 0), (.int .i64 0), (.int .i64 0), (.bool false), (.bool false)]) 40 rfl Try.underlying22 info25 rfl (by decide) (by omega) v140 y139 l0 _ _ _ (fun _ => True) (fun _ => False) rfl rfl ?aO ?aR (fun _ _ h => h) (fun _ h => h.elim) ?aF ?aB ?aS ?aL ?_; (case aR => repeat (first | exact (Kd.C_below HR0.out HB.out) | (with_reducible refine Kd.C_alloc ?_ _) | (with_reducible refine Kd.C_drewN ?_ _) | (with_reducible refine Kd.C_drew ?_))); (case aB => exact (by repeat (first | (with_reducible first | exact HB.out | apply below_alloc | apply pw_below_drewN | apply below_drew1) | exact HB.out))); (case aF => exact (fun _ _ => trivial)); (case aO => exact (by (with_reducible repeat (first | apply Kd.R_alloc | apply Kd.R_drewN | apply Kd.R_drew)); exact HO141.out)); (case aS => exact (below_size (by repeat (first | (with_reducible first | exact HB.out | apply below_alloc | apply pw_below_drewN | apply below_drew1) | exact HB.out)))); (case aL => have := LMc19.out; omega); intro v143 w29 ho hb hg hat; rw [← Ny142.out] at ho; have n0_ := Aside0.mk (hb); have n1_ := Aside0.mk (ho); clear HB; clear HO141; have HB := n0_; have HO144 := n1_; clear n0_ n1_; clear ho hb hg hat; have p23 : 0 ≤ ((ji20) : Int) := of_decide_eq_true (by first | (with_reducible assumption) | assumption); have q23 : ((ji20) : Int) < ((y142.length : Int) : Int) := of_decide_eq_true (by first | (with_reducible assumption) | assumption); obtain ⟨go23, co23, eo23, gb23, gl23, cl23, HG23⟩ := Kd.R_form HO144.out (by omega); (first | cases eo23 | (injection eo23 with ea_ en_ ec_; (first | subst ea_ | (injection ea_ with ea_; subst ea_)); subst ec_; clear en_)); have GB23 := Aside0.mk gb23; have GG23 := Aside0.mk HG23; clear gb23 gl23 HG23; obtain ⟨ce23, hcl23, hM23, hcc23, hfr23⟩ := Kd.R_elem HO144.out z25 ((ji20) : Int) p23 q23; obtain rfl := k25_openM hM23; have hx23_0 : w29.cell? ⟨go23, ((ji20) : Int).toNat * 6, none⟩ = some (.int .u8 ((rd_T25 y142 (ji20)).f0)) := hcc23 0 _ rfl; have hx23_1 : w29.cell? ⟨go23, ((ji20) : Int).toNat * 6 + 1, none⟩ = some (.int .i64 ((rd_T25 y142 (ji20)).f1)) := hcc23 1 _ rfl; have hx23_2 : w29.cell? ⟨go23, ((ji20) : Int).toNat * 6 + 2, none⟩ = some (.int .i64 ((rd_T25 y142 (ji20)).f2)) := hcc23 2 _ rfl; have hx23_3 : w29.cell? ⟨go23, ((ji20) : Int).toNat * 6 + 3, none⟩ = some (.int .i64 ((rd_T25 y142 (ji20)).f3)) := hcc23 3 _ rfl; have hx23_4 : w29.cell? ⟨go23, ((ji20) : Int).toNat * 6 + 4, none⟩ = some (.bool ((rd_T25 y142 (ji20)).f4)) := hcc23 4 _ rfl; have hx23_5 : w29.cell? ⟨go23, ((ji20) : Int).toNat * 6 + 5, none⟩ = some (.bool ((rd_T25 y142 (ji20)).f5)) := hcc23 5 _ rfl; have hf23_0 : w29.frozen? ⟨go23, ((ji20) : Int).toNat * 6, none⟩ = false := hfr23 0; have hf23_1 : w29.frozen? ⟨go23, ((ji20) : Int).toNat * 6 + 1, none⟩ = false := hfr23 1; have hf23_2 : w29.frozen? ⟨go23, ((ji20) : Int).toNat * 6 + 2, none⟩ = false := hfr23 2; have hf23_3 : w29.frozen? ⟨go23, ((ji20) : Int).toNat * 6 + 3, none⟩ = false := hfr23 3; have hf23_4 : w29.frozen? ⟨go23, ((ji20) : Int).toNat * 6 + 4, none⟩ = false := hfr23 4; have hf23_5 : w29.frozen? ⟨go23, ((ji20) : Int).toNat * 6 + 5, none⟩ = false := hfr23 5; clear hcl23 hcc23 hfr23 hM23; replace p23 := eq_true p23; replace q23 := eq_true q23; have HX30 := Aside0.mk (show Kd.R k25 25 w29 w.heap.size (fun _ => True) (.slice (some ⟨go23, 0, none⟩) y142.length co23) y142 from (by (with_reducible repeat (first | apply Kd.R_alloc | apply Kd.R_drewN | apply Kd.R_drew)); exact HO144.out)); obtain ⟨ce30, hcl30, hM30, hcc30, hfr30⟩ := Kd.R_elem HX30.out z25 ((ji20) : Int) (of_decide_eq_true (by first | (with_reducible assumption) | assumption)) (by have h_ : ((ji20) : Int) < ((y142.length : Int) : Int) := of_decide_eq_true (by first | (with_reducible assumption) | assumption); first | exact h_ | (have e_ := (Kd.R_reads' HO144.out).1; omega) | simpa using h_); obtain rfl := k25_openM hM30; have HP30 := Kd.R_seg HX30.out ((ji20) : Int) (of_decide_eq_true (by first | (with_reducible assumption) | assumption)) (by have h_ : ((ji20) : Int) < ((y142.length : Int) : Int) := of_decide_eq_true (by first | (with_reducible assumption) | assumption); first | exact h_ | (have e_ := (Kd.R_reads' HO144.out).1; omega) | simpa using h_) (seg := [.bool true]) (j := 4) hcl30 hcc30 (show 5 ≤ 6 from by decide) (x' := (⟨(rd_T25 y142 (ji20)).f0, (rd_T25 y142 (ji20)).f1, (rd_T25 y142 (ji20)).f2, (rd_T25 y142 (ji20)).f3, true, (rd_T25 y142 (ji20)).f5⟩ : S25)) (k25_mkM _ _ _ (⟨(rd_T25 y142 (ji20)).f0, (rd_T25 y142 (ji20)).f1, (rd_T25 y142 (ji20)).f2, (rd_T25 y142 (ji20)).f3, true, (rd_T25 y142 (ji20)).f5⟩ : S25) ) (fun _ hk => hk); have hx30_4 := hcc30 4 _ rfl; (try simp only [show (k25).sz = 6 from rfl, Nat.mul_one, Nat.add_zero] at hx30_4); have hf30_4 := hfr30 4; (try simp only [show (k25).sz = 6 from rfl, Nat.mul_one, Nat.add_zero] at hf30_4); clear hcl30 hcc30 hfr30 hM30) | ((with_reducible refine gate_store (t := 4) (p := 60) rfl ?_); refine store_event (t := 4) (p := 60) (v := ?vo_w31) (w1 := (w29.setCell ⟨go23, ((ji20) : Int).toNat * 6 + 4, none⟩ (.bool true))) ?hg ?ho ?hn ?hr ?_; (case ho => rfl); (case hg => rfl); (case hn => rfl); (case hr => first | (go_simp; done) | (go_simp; rfl)); intro w31 hw; have hg : w29.grownBy w31 (some go23) := (by rw [hw]; exact HP30.2); have hp_ : Kd.R k25 25 w31 w.heap.size (fun _ => True) (.slice (some ⟨go23, 0, none⟩) y142.length co23) y145 := (by rw [hw, Ny145.out]; exact HP30.1); clear HP30; have n0_ := Aside0.mk (hp_); have n1_ := Aside0.mk ((by rw [hw]; exact below_set (HB.out) GB23.out : Below w.heap.size w w31)); clear HO144; clear HB; have HO144 := n0_; have HB := n1_; clear n0_ n1_; clear hg hw hp_) | ((with_reducible refine gate_dst (N := 61) rfl ?_); (try (refine gate_guard (by rfl) ?_; dsimp only)); refine Kd.R_lit k25 _ 25 ?hg (N := 61) ?hd (xs := ([] : List (S25))) (inner := []) (ok := fun _ => True) (okp := fun _ => True) ?hr ?hp (fun _ hk => hk) trivial (Below.refl _ _) (Nat.le_refl _) (by simp) ?_; (case hd => rfl); (case hg => rfl); (case hr => first | (go_simp; done) | (go_simp; rfl)); (case hp => exact (Reps.none _ _)); intro v147 w32 ho33 hb hg_ hnew_; clear hg_ hnew_; (first | rw [← Ny146.out] at ho33 | (simp only [Int.reduceToNat] at ho33; rw [← Ny146.out] at ho33)); have n0_ := Aside0.mk (Kd.R_elder' (by (with_reducible repeat (first | apply Kd.R_alloc | apply Kd.R_drewN | apply Kd.R_drew)); exact HO144.out) (Kd.R_base ho33) hb); have n1_ := Aside0.mk (Kd.R_lower (Kd.R_new' ho33 (Kd.R_lt (by (with_reducible repeat (first | apply Kd.R_alloc | apply Kd.R_drewN | apply Kd.R_drew)); exact HO144.out))) (below_size (by repeat (first | (with_reducible first | exact HB.out | apply below_alloc | apply pw_below_drewN | apply below_drew1) | exact HB.out)))); have n2_ := Aside0.mk (below_step (by repeat (first | (with_reducible first | exact HB.out | apply below_alloc | apply pw_below_drewN | apply below_drew1) | exact HB.out)) hb); clear HO144; clear HB; have HO144 := n0_; have HO148 := n1_; have HB := n2_; clear n0_ n1_ n2_; clear hb ho33) | ((with_reducible refine gate_builtin (b := .append) (xs := #[.tmp 61, .tmp 62]) rfl ?_); (try (refine gate_guard (by rfl) ?_; dsimp only)); at_builtin; refine Kd.R_append_rows k25 (w0 := w) w.heap.size rfl (.tmp 61) (.tmp 62) 22 25 (.agg #[(.int .u8 0), (.int .i64 0), (.int .i64 0), (.int .i64 0), (.bool false), (.bool false)]) 40 rfl Try.underlying22 info25 rfl (by decide) (by omega) v147 y146 l0 _ _ _ (fun k_ => some k_ ≠ (.slice (some ⟨go23, 0, none⟩) y142.length co23 : Value).ownBlock) (fun _ => False) rfl rfl ?aO ?aR (fun _ _ h => h) (fun _ h => h.elim) ?aF ?aB ?aS ?aL ?_; (case aR => repeat (first | exact (Kd.C_below HR0.out HB.out) | (with_reducible refine Kd.C_alloc ?_ _) | (with_reducible refine Kd.C_drewN ?_ _) | (with_reducible refine Kd.C_drew ?_))); (case aB => exact (by repeat (first | (with_reducible first | exact HB.out | apply below_alloc | apply pw_below_drewN | apply below_drew1) | exact HB.out))); (case aF => exact (fun k_ hk => Kd.fresh' (Kd.R_lt (by (with_reducible repeat (first | apply Kd.R_alloc | apply Kd.R_drewN | apply Kd.R_drew)); exact HO144.out)) k_ hk)); (case aO => exact (by (with_reducible repeat (first | apply Kd.R_alloc | apply Kd.R_drewN | apply Kd.R_drew)); exact Kd.R_mono HO148.out (fun _ hk => hk.2))); (case aS => exact (below_size (by repeat (first | (with_reducible first | exact HB.out | apply below_alloc | apply pw_below_drewN | apply below_drew1) | exact HB.out)))); (case aL => have := LMc24.out; omega); intro v150 w34 ho hb hg hat; rw [← Ny149.out] at ho; have n0_ := Aside0.mk (Kd.R_after (ok := (fun _ => True)) (by (with_reducible repeat (first | apply Kd.R_alloc | apply Kd.R_drewN | apply Kd.R_drew)); exact HO144.out) hg hat); have n1_ := Aside0.mk (hb); have n2_ := Aside0.mk (ho); clear HO144; clear HB; clear HO148; have HO144 := n0_; have HB := n1_; have HO151 := n2_; clear n0_ n1_ n2_; clear ho hb hg hat; obtain ⟨Ao35, co35, eo35⟩ := Kd.R_slice HO151.out; subst eo35; have p152 : 0 ≤ ((ji20) : Int) := of_decide_eq_true (by first | (with_reducible assumption) | assumption); have q152 : (ji20) < (y149.length : Int) := of_decide_eq_true (by first | (with_reducible assumption) | assumption); obtain ⟨ad152, e152, hx152_0, hx152_1, hx152_2, hx152_3, hx152_4, hx152_5⟩ := at_T25 (Kd.R_reads' HO151.out).2.2 (ji20) p152 q152; cases e152; replace p152 := eq_true p152; replace q152 := eq_true q152))
                          (try simp only [Act.put, List.setIfInBounds_toArray, List.set_cons_zero, List.set_cons_succ])
                          go_cut [] (fun wc => ∃ (kq : Nat) (x10_25 : List (S25)), Aside0 (stickfullaw21_IntrinsicSofter.j2 kq l0 y145 x10_25 = some true) ∧ Aside0 (kq ≤ k2) ∧ Aside0 (Kd.R k25 25 wc w.heap.size (fun k_ => some k_ ≠ ((.slice (some ad152) y149.length co35) : Value).ownBlock) (.slice (some ⟨go23, 0, none⟩) y142.length co23) y145) ∧ Aside0 (Kd.R k25 25 wc w.heap.size (fun k_ => some k_ ≠ ((.slice (some ⟨go23, 0, none⟩) y142.length co23) : Value).ownBlock) (.slice (some ad152) y149.length co35) x10_25) ∧ Aside0 (Below w.heap.size w wc))
                          case first =>
                            have H := HC26.out
                            clear HC26
                            by_cases c36 : ((rd_T25 y149 (ji20)).f0) = 4
                            · rw [if_pos c36] at H
                              have c36b0 : (((rd_T25 y149 (ji20)).f0) == 4) = true := beq_iff_eq.mpr c36
                              have c36b1 : (((rd_T25 y149 (ji20)).f0) != 4) = false := bne_eq_false_iff_eq.mpr c36
                              clear c36
                              (first | rw [c36b0] | (simp only [i64_w, i32_w]; rw [c36b0]) | skip)
                              have H' := Aside0.mk H
                              clear H
                              go_wp2
                              go_meet
                              case rel => exact ⟨_, (y149), H', ⟨by have := HJ3.out; have := HK2.out; first | omega | exact Nat.le_refl _⟩, ⟨by (with_reducible repeat (first | apply Kd.R_alloc | apply Kd.R_drewN | apply Kd.R_drew)); exact Kd.R_mono HO144.out (fun _ hk => hk.2)⟩, ⟨by (with_reducible repeat (first | apply Kd.R_alloc | apply Kd.R_drewN | apply Kd.R_drew)); exact HO151.out⟩, ⟨by repeat (first | (with_reducible first | exact HB.out | apply below_alloc | apply pw_below_drewN | apply below_drew1) | exact HB.out)⟩⟩
                            · rw [if_neg c36] at H
                              have c36b0 : (((rd_T25 y149 (ji20)).f0) == 4) = false := beq_eq_false_iff_ne.mpr c36
                              have c36b1 : (((rd_T25 y149 (ji20)).f0) != 4) = true := bne_iff_ne.mpr c36
                              (first | rw [c36b0] | (simp only [i64_w, i32_w]; rw [c36b0]) | skip)
                              obtain ⟨y154, hy154⟩ : ∃ y_ : List (S25), y_ = (y149.set ((ji20) : Int).toNat (⟨(rd_T25 y149 (ji20)).f0, (rd_T25 y149 (ji20)).f1, (rd_T25 y149 (ji20)).f2, wrap64 (((rd_T25 y149 (ji20)).f3) + (wrap64 (a2))), (rd_T25 y149 (ji20)).f4, (rd_T25 y149 (ji20)).f5⟩ : S25)) := ⟨_, rfl⟩
                              replace H : (stickfullaw21_IntrinsicSofter.j2 k2 l0 y145 y154) = some true := by first | (rw [hy154]; with_reducible exact H) | (have H2_ := (Option.bind_some _ _).symm.trans H; rw [hy154]; with_reducible exact H2_) | (have H2_ := (Option.bind_some _ _).symm.trans H; with_reducible exact H2_) | with_reducible exact H | (rw [hy154]; exact H) | exact H
                              have Ny154 := Aside0.mk hy154
                              clear hy154
                              have H' := Aside0.mk H
                              clear H
                              have p153 : 0 ≤ ((ji20) : Int) := of_decide_eq_true (by first | (with_reducible assumption) | assumption)
                              have q153 : (ji20) < (y149.length : Int) := of_decide_eq_true (by first | (with_reducible assumption) | assumption)
                              obtain ⟨ad153, e153, hx153_0, hx153_1, hx153_2, hx153_3, hx153_4, hx153_5⟩ := at_T25 (Kd.R_reads' HO151.out).2.2 (ji20) p153 q153
                              obtain rfl : ad152 = ad153 := (by injection e153)
                              replace p153 := eq_true p153
                              replace q153 := eq_true q153
                              have p37 : 0 ≤ ((ji20) : Int) := of_decide_eq_true (by first | (with_reducible assumption) | assumption)
                              have q37 : ((ji20) : Int) < ((y149.length : Int) : Int) := of_decide_eq_true (by first | (with_reducible assumption) | assumption)
                              obtain ⟨go37, co37, eo37, gb37, gl37, cl37, HG37⟩ := Kd.R_form HO151.out (by omega)
                              (first | cases eo37 | (injection eo37 with ea_ en_ ec_; (first | subst ea_ | (injection ea_ with ea_; subst ea_)); subst ec_; clear en_))
                              have GB37 := Aside0.mk gb37
                              have GG37 := Aside0.mk HG37
                              clear gb37 gl37 HG37
                              (first | simp only [add_plain] at hx152_0 | skip)
                              (first | simp only [add_plain] at hx152_1 | skip)
                              (first | simp only [add_plain] at hx152_2 | skip)
                              (first | simp only [add_plain] at hx152_3 | skip)
                              (first | simp only [add_plain] at hx152_4 | skip)
                              (first | simp only [add_plain] at hx152_5 | skip)
                              (first | simp only [add_plain] at hx153_0 | skip)
                              (first | simp only [add_plain] at hx153_1 | skip)
                              (first | simp only [add_plain] at hx153_2 | skip)
                              (first | simp only [add_plain] at hx153_3 | skip)
                              (first | simp only [add_plain] at hx153_4 | skip)
                              (first | simp only [add_plain] at hx153_5 | skip)
                              obtain ⟨ce37, hcl37, hM37, hcc37, hfr37⟩ := Kd.R_elem HO151.out z25 ((ji20) : Int) p37 q37
                              obtain rfl := k25_openM hM37
                              have hx37_0 : w34.cell? ⟨go37, ((ji20) : Int).toNat * 6, none⟩ = some (.int .u8 ((rd_T25 y149 (ji20)).f0)) := hcc37 0 _ rfl
                              have hx37_1 : w34.cell? ⟨go37, ((ji20) : Int).toNat * 6 + 1, none⟩ = some (.int .i64 ((rd_T25 y149 (ji20)).f1)) := hcc37 1 _ rfl
                              have hx37_2 : w34.cell? ⟨go37, ((ji20) : Int).toNat * 6 + 2, none⟩ = some (.int .i64 ((rd_T25 y149 (ji20)).f2)) := hcc37 2 _ rfl
                              have hx37_3 : w34.cell? ⟨go37, ((ji20) : Int).toNat * 6 + 3, none⟩ = some (.int .i64 ((rd_T25 y149 (ji20)).f3)) := hcc37 3 _ rfl
                              have hx37_4 : w34.cell? ⟨go37, ((ji20) : Int).toNat * 6 + 4, none⟩ = some (.bool ((rd_T25 y149 (ji20)).f4)) := hcc37 4 _ rfl
                              have hx37_5 : w34.cell? ⟨go37, ((ji20) : Int).toNat * 6 + 5, none⟩ = some (.bool ((rd_T25 y149 (ji20)).f5)) := hcc37 5 _ rfl
                              have hf37_0 : w34.frozen? ⟨go37, ((ji20) : Int).toNat * 6, none⟩ = false := hfr37 0
                              have hf37_1 : w34.frozen? ⟨go37, ((ji20) : Int).toNat * 6 + 1, none⟩ = false := hfr37 1
                              have hf37_2 : w34.frozen? ⟨go37, ((ji20) : Int).toNat * 6 + 2, none⟩ = false := hfr37 2
                              have hf37_3 : w34.frozen? ⟨go37, ((ji20) : Int).toNat * 6 + 3, none⟩ = false := hfr37 3
                              have hf37_4 : w34.frozen? ⟨go37, ((ji20) : Int).toNat * 6 + 4, none⟩ = false := hfr37 4
                              have hf37_5 : w34.frozen? ⟨go37, ((ji20) : Int).toNat * 6 + 5, none⟩ = false := hfr37 5
                              clear hcl37 hcc37 hfr37 hM37
                              replace p37 := eq_true p37
                              replace q37 := eq_true q37
                              have HX38 := Aside0.mk (show Kd.R k25 25 w34 w.heap.size (fun k_ => some k_ ≠ (.slice (some ⟨go23, 0, none⟩) y142.length co23 : Value).ownBlock) (.slice (some ⟨go37, 0, none⟩) y149.length co35) y149 from (by (with_reducible repeat (first | apply Kd.R_alloc | apply Kd.R_drewN | apply Kd.R_drew)); exact HO151.out))
                              obtain ⟨ce38, hcl38, hM38, hcc38, hfr38⟩ := Kd.R_elem HX38.out z25 ((ji20) : Int) (of_decide_eq_true (by first | (with_reducible assumption) | assumption)) (by have h_ : ((ji20) : Int) < ((y149.length : Int) : Int) := of_decide_eq_true (by first | (with_reducible assumption) | assumption); first | exact h_ | (have e_ := (Kd.R_reads' HO151.out).1; omega) | simpa using h_)
                              obtain rfl := k25_openM hM38
                              have HP38 := Kd.R_seg HX38.out ((ji20) : Int) (of_decide_eq_true (by first | (with_reducible assumption) | assumption)) (by have h_ : ((ji20) : Int) < ((y149.length : Int) : Int) := of_decide_eq_true (by first | (with_reducible assumption) | assumption); first | exact h_ | (have e_ := (Kd.R_reads' HO151.out).1; omega) | simpa using h_) (seg := [.int .i64 (wrap64 (((rd_T25 y149 (ji20)).f3) + (wrap64 (a2))))]) (j := 3) hcl38 hcc38 (show 4 ≤ 6 from by decide) (x' := (⟨(rd_T25 y149 (ji20)).f0, (rd_T25 y149 (ji20)).f1, (rd_T25 y149 (ji20)).f2, wrap64 (((rd_T25 y149 (ji20)).f3) + (wrap64 (a2))), (rd_T25 y149 (ji20)).f4, (rd_T25 y149 (ji20)).f5⟩ : S25)) (k25_mkM _ _ _ (⟨(rd_T25 y149 (ji20)).f0, (rd_T25 y149 (ji20)).f1, (rd_T25 y149 (ji20)).f2, wrap64 (((rd_T25 y149 (ji20)).f3) + (wrap64 (a2))), (rd_T25 y149 (ji20)).f4, (rd_T25 y149 (ji20)).f5⟩ : S25) ) (fun _ hk => hk)
                              have hx38_3 := hcc38 3 _ rfl
                              (try simp only [show (k25).sz = 6 from rfl, Nat.mul_one, Nat.add_zero] at hx38_3)
                              have hf38_3 := hfr38 3
                              (try simp only [show (k25).sz = 6 from rfl, Nat.mul_one, Nat.add_zero] at hf38_3)
                              clear hcl38 hcc38 hfr38 hM38
                              go_wp2_with (first | ((with_reducible refine gate_store (t := 2) (p := 81) rfl ?_); refine store_event (t := 2) (p := 81) (v := ?vo_w39) (w1 := (w34.setCell ⟨go37, ((ji20) : Int).toNat * 6 + 3, none⟩ (.int .i64 (wrap64 (((rd_T25 y149 (ji20)).f3) + (wrap64 (a2))))))) ?hg ?ho ?hn ?hr ?_; (case ho => rfl); (case hg => rfl); (case hn => rfl); (case hr => first | (go_simp; done) | (go_simp; rfl)); intro w39 hw; have hg : w34.grownBy w39 (some go37) := (by rw [hw]; exact HP38.2); have hp_ : Kd.R k25 25 w39 w.heap.size (fun k_ => some k_ ≠ (.slice (some ⟨go23, 0, none⟩) y142.length co23 : Value).ownBlock) (.slice (some ⟨go37, 0, none⟩) y149.length co35) y154 := (by rw [hw, Ny154.out]; exact HP38.1); clear HP38; have n0_ := Aside0.mk (Kd.R_after (v := (.slice (some ⟨go37, 0, none⟩) y149.length co35)) (v1 := (.slice (some ⟨go37, 0, none⟩) y149.length co35)) (ok := (fun _ => True)) (by (with_reducible repeat (first | apply Kd.R_alloc | apply Kd.R_drewN | apply Kd.R_drew)); exact HO144.out) hg (.inl rfl)); have n1_ := Aside0.mk (hp_); have n2_ := Aside0.mk ((by rw [hw]; exact below_set (HB.out) GB37.out : Below w.heap.size w w39)); clear HO144; clear HO151; clear HB; have HO144 := n0_; have HO151 := n1_; have HB := n2_; clear n0_ n1_ n2_; clear hg hw hp_))
                              go_meet
                              case rel => exact ⟨_, (y154), H', ⟨by have := HJ3.out; have := HK2.out; first | omega | exact Nat.le_refl _⟩, ⟨by (with_reducible repeat (first | apply Kd.R_alloc | apply Kd.R_drewN | apply Kd.R_drew)); exact Kd.R_mono HO144.out (fun _ hk => hk.2)⟩, ⟨by (with_reducible repeat (first | apply Kd.R_alloc | apply Kd.R_drewN | apply Kd.R_drew)); exact HO151.out⟩, ⟨by repeat (first | (with_reducible first | exact HB.out | apply below_alloc | apply pw_below_drewN | apply below_drew1) | exact HB.out)⟩⟩
                          case rest =>
                            clear HC26
                            try clear c1
                            try clear p1
                            try clear q1
                            try clear hx1
                            try clear c2
                            try clear p2
                            try clear q2
                            try clear hx2
                            try clear c3
                            try clear p3
                            try clear q3
                            try clear hx3
                            try clear hf3
                            try clear c5
                            try clear c6
                            try clear p6
                            try clear c7
                            try clear c10
                            try clear c10b0
                            try clear c11
                            try clear c11b0
                            try clear c12
                            try clear c12b0
                            try clear p13
                            try clear q13
                            try clear hx13
                            try clear c15
                            try clear c15b0
                            try clear p15
                            try clear q15
                            try clear hx15
                            try clear c18
                            try clear c18b0
                            try clear c18b1
                            try clear c18b2
                            try clear c19
                            try clear c21
                            try clear c21b0
                            try clear c22
                            try clear c22b0
                            try clear c23
                            try clear p23
                            try clear q23
                            try clear hx23
                            try clear hf23
                            try clear c24
                            try clear c25
                            try clear c25b0
                            try clear c30
                            try clear hx30
                            try clear hf30
                            try clear c36
                            try clear c36b0
                            try clear c36b1
                            try clear c37
                            try clear p37
                            try clear q37
                            try clear hx37
                            try clear hf37
                            try clear c38
                            try clear hx38
                            try clear hf38
                            try clear hx135_0
                            try clear hx135_1
                            try clear hx135_2
                            try clear hx135_3
                            try clear hx135_4
                            try clear hx135_5
                            try clear hx137_0
                            try clear hx137_1
                            try clear hx137_2
                            try clear hx137_3
                            try clear hx137_4
                            try clear hx137_5
                            try clear hx152_0
                            try clear hx152_1
                            try clear hx152_2
                            try clear hx152_3
                            try clear hx152_4
                            try clear hx152_5
                            try clear hx153_0
                            try clear hx153_1
                            try clear hx153_2
                            try clear hx153_3
                            try clear hx153_4
                            try clear hx153_5
                            try clear hx23_0
                            try clear hx23_1
                            try clear hx23_2
                            try clear hx23_3
                            try clear hx23_4
                            try clear hx23_5
                            try clear hx30_4
                            try clear hx37_0
                            try clear hx37_1
                            try clear hx37_2
                            try clear hx37_3
                            try clear hx37_4
                            try clear hx37_5
                            try clear hx38_3
                            try clear p135
                            try clear p137
                            try clear p152
                            try clear p153
                            try clear p2
                            try clear p23
                            try clear p37
                            try clear q135
                            try clear q137
                            try clear q152
                            try clear q153
                            try clear q23
                            try clear q37
                            obtain ⟨kq, x10_25, HA, HJ25, HO_9, HO_10, HB⟩ := hcut
                            have hl9_25 := (Kd.R_reads' HO_9.out).1
                            rw [hl9_25] at HO_9
                            (try simp only [hl9_25])
                            (try simp only [hl9_25] at HO_10)
                            have hl10_25 := (Kd.R_reads' HO_10.out).1
                            rw [hl10_25] at HO_10
                            (try simp only [hl10_25])
                            (try simp only [hl10_25] at HO_9)
                            cases kq with
                            | zero => exact absurd HA.out (by simp [stickfullaw21_IntrinsicSofter.j2])
                            | succ kj25 =>
                              have H := HA.out
                              clear HA
                              simp only [stickfullaw21_IntrinsicSofter.j2] at H
                              replace H := Option.bind_eq_some_iff.mp H
                              obtain ⟨⟨t155, t156, t157⟩, A400, H⟩ := H
                              replace H : ((intrinsic_MinMax.f y145).bind fun bt158 => ((intrinsic_MinMax.f x10_25).bind fun bt161 => (if t157 = 0 then (if bt158.2.2 = 0 then (if bt161.2.2 = 0 then (if bt158.1 ≤ t155 then (if bt158.2.1 = t156 then (if bt161.1 ≥ t155 then (if bt161.2.1 ≥ t156 then ((stickfullaw21_head.f).bind fun t164 => (some t164)) else (some false)) else (some false)) else (some false)) else (some false)) else (some false)) else (some false)) else (some false)))) = some true := H
                              have A40 := Aside0.mk A400
                              clear A400
                              replace H := Option.bind_eq_some_iff.mp H
                              obtain ⟨⟨t158, t159, t160⟩, A410, H⟩ := H
                              replace H : ((intrinsic_MinMax.f x10_25).bind fun bt161 => (if t157 = 0 then (if t160 = 0 then (if bt161.2.2 = 0 then (if t158 ≤ t155 then (if t159 = t156 then (if bt161.1 ≥ t155 then (if bt161.2.1 ≥ t156 then ((stickfullaw21_head.f).bind fun t164 => (some t164)) else (some false)) else (some false)) else (some false)) else (some false)) else (some false)) else (some false)) else (some false))) = some true := H
                              have A41 := Aside0.mk A410
                              clear A410
                              replace H := Option.bind_eq_some_iff.mp H
                              obtain ⟨⟨t161, t162, t163⟩, A420, H⟩ := H
                              replace H : (if t157 = 0 then (if t160 = 0 then (if t163 = 0 then (if t158 ≤ t155 then (if t159 = t156 then (if t161 ≥ t155 then (if t162 ≥ t156 then ((stickfullaw21_head.f).bind fun t164 => (some t164)) else (some false)) else (some false)) else (some false)) else (some false)) else (some false)) else (some false)) else (some false)) = some true := H
                              have A42 := Aside0.mk A420
                              clear A420
                              by_cases c43 : t157 = 0
                              · rw [if_pos c43] at H
                                have c43b0 : (t157 == 0) = true := beq_iff_eq.mpr c43
                                have c43b1 : (t157 != 0) = false := bne_eq_false_iff_eq.mpr c43
                                clear c43
                                by_cases c44 : t160 = 0
                                · rw [if_pos c44] at H
                                  have c44b0 : (t160 == 0) = true := beq_iff_eq.mpr c44
                                  have c44b1 : (t160 != 0) = false := bne_eq_false_iff_eq.mpr c44
                                  clear c44
                                  by_cases c45 : t163 = 0
                                  · rw [if_pos c45] at H
                                    have c45b0 : (t163 == 0) = true := beq_iff_eq.mpr c45
                                    have c45b1 : (t163 != 0) = false := bne_eq_false_iff_eq.mpr c45
                                    clear c45
                                    by_cases c46 : t158 ≤ t155
                                    · rw [if_pos c46] at H
                                      have c46b0 : decide (t158 ≤ t155) = true := decide_eq_true c46
                                      clear c46
                                      by_cases c47 : t159 = t156
                                      · rw [if_pos c47] at H
                                        have c47b0 : (t159 == t156) = true := beq_iff_eq.mpr c47
                                        have c47b1 : (t159 != t156) = false := bne_eq_false_iff_eq.mpr c47
                                        clear c47
                                        by_cases c48 : t161 ≥ t155
                                        · rw [if_pos c48] at H
                                          have c48b0 : decide (t155 ≤ t161) = true := decide_eq_true c48
                                          clear c48
                                          by_cases c49 : t162 ≥ t156
                                          · rw [if_pos c49] at H
                                            have c49b0 : decide (t156 ≤ t162) = true := decide_eq_true c49
                                            clear c49
                                            replace H := Option.bind_eq_some_iff.mp H
                                            obtain ⟨t164, A500, H⟩ := H
                                            replace H : (some t164) = some true := H
                                            have A50 := Aside0.mk A500
                                            clear A500
                                            have hrt := Option.some.inj H
                                            first | exact absurd hrt (by decide) | skip
                                            all_goals (
                                              go_wp2_with (first | ((with_reducible refine gate_callee (f := 23) rfl ?_); refine goesL_ (some 84) rfl rfl Try.func23 (by kernel_rfl) rfl #[.slice A0 l0.length c0] rfl (by (try simp only [List.map_toArray, List.map_cons, List.map_nil]); first | done | rfl | (simp only [List.length_drop, List.length_take]; rfl)) ?_; (with_reducible refine (intrinsic_MinMax.calls _ _ l0 t155 t156 t157 _ ?side1 ?side2 A40.out).mono ?_); (case side1 => repeat (first | exact (Kd.C_below HR0.out HB.out) | (with_reducible refine Kd.C_alloc ?_ _) | (with_reducible refine Kd.C_drewN ?_ _) | (with_reducible refine Kd.C_drew ?_))); (case side2 => exact HC0.out); rintro e w51 ⟨rfl, hb⟩; refine ⟨_, rfl, ?_⟩; have n0_ := Aside0.mk (Kd.R_below (by (with_reducible repeat (first | apply Kd.R_alloc | apply Kd.R_drewN | apply Kd.R_drew)); exact HO_9.out) hb); have n1_ := Aside0.mk (Kd.R_below (by (with_reducible repeat (first | apply Kd.R_alloc | apply Kd.R_drewN | apply Kd.R_drew)); exact HO_10.out) hb); have n2_ := Aside0.mk (below_step (by repeat (first | (with_reducible first | exact HB.out | apply below_alloc | apply pw_below_drewN | apply below_drew1) | exact HB.out)) hb); clear HO_9; clear HO_10; clear HB; have HO_9 := n0_; have HO_10 := n1_; have HB := n2_; clear n0_ n1_ n2_; (try clear hb); (try clear hb2); (try clear hk); (try clear hi)) | ((with_reducible refine gate_callee (f := 23) rfl ?_); refine goesL_ (some 90) rfl rfl Try.func23 (by kernel_rfl) rfl #[.slice (some ⟨go23, 0, none⟩) y145.length co23] rfl (by (try simp only [List.map_toArray, List.map_cons, List.map_nil]); first | done | rfl | (simp only [List.length_drop, List.length_take]; rfl)) ?_; (with_reducible refine (intrinsic_MinMax.calls _ _ y145 t158 t159 t160 _ ?side1 ?side2 A41.out).mono ?_); (case side1 => repeat (first | exact (Kd.R_reads' HO_9.out).2.2 | (with_reducible refine Kd.C_alloc ?_ _) | (with_reducible refine Kd.C_drewN ?_ _) | (with_reducible refine Kd.C_drew ?_))); (case side2 => exact (Kd.R_reads' HO_9.out).2.1); rintro e w52 ⟨rfl, hb⟩; refine ⟨_, rfl, ?_⟩; have n0_ := Aside0.mk (Kd.R_below (by (with_reducible repeat (first | apply Kd.R_alloc | apply Kd.R_drewN | apply Kd.R_drew)); exact HO_9.out) hb); have n1_ := Aside0.mk (Kd.R_below (by (with_reducible repeat (first | apply Kd.R_alloc | apply Kd.R_drewN | apply Kd.R_drew)); exact HO_10.out) hb); have n2_ := Aside0.mk (below_step (by repeat (first | (with_reducible first | exact HB.out | apply below_alloc | apply pw_below_drewN | apply below_drew1) | exact HB.out)) hb); clear HO_9; clear HO_10; clear HB; have HO_9 := n0_; have HO_10 := n1_; have HB := n2_; clear n0_ n1_ n2_; (try clear hb); (try clear hb2); (try clear hk); (try clear hi)) | ((with_reducible refine gate_callee (f := 23) rfl ?_); refine goesL_ (some 96) rfl rfl Try.func23 (by kernel_rfl) rfl #[.slice (some ad152) x10_25.length co35] rfl (by (try simp only [List.map_toArray, List.map_cons, List.map_nil]); first | done | rfl | (simp only [List.length_drop, List.length_take]; rfl)) ?_; (with_reducible refine (intrinsic_MinMax.calls _ _ x10_25 t161 t162 t163 _ ?side1 ?side2 A42.out).mono ?_); (case side1 => repeat (first | exact (Kd.R_reads' HO_10.out).2.2 | (with_reducible refine Kd.C_alloc ?_ _) | (with_reducible refine Kd.C_drewN ?_ _) | (with_reducible refine Kd.C_drew ?_))); (case side2 => exact (Kd.R_reads' HO_10.out).2.1); rintro e w53 ⟨rfl, hb⟩; refine ⟨_, rfl, ?_⟩; have n0_ := Aside0.mk (Kd.R_below (by (with_reducible repeat (first | apply Kd.R_alloc | apply Kd.R_drewN | apply Kd.R_drew)); exact HO_9.out) hb); have n1_ := Aside0.mk (Kd.R_below (by (with_reducible repeat (first | apply Kd.R_alloc | apply Kd.R_drewN | apply Kd.R_drew)); exact HO_10.out) hb); have n2_ := Aside0.mk (below_step (by repeat (first | (with_reducible first | exact HB.out | apply below_alloc | apply pw_below_drewN | apply below_drew1) | exact HB.out)) hb); clear HO_9; clear HO_10; clear HB; have HO_9 := n0_; have HO_10 := n1_; have HB := n2_; clear n0_ n1_ n2_; (try clear hb); (try clear hb2); (try clear hk); (try clear hi)) | (go_at_call 22; (with_reducible refine (stickfullaw21_head.calls  t164 _ A50.out).mono ?_); rintro e w54 ⟨rfl, hb⟩; have n0_ := Aside0.mk (Kd.R_below (by (with_reducible repeat (first | apply Kd.R_alloc | apply Kd.R_drewN | apply Kd.R_drew)); exact HO_9.out) hb); have n1_ := Aside0.mk (Kd.R_below (by (with_reducible repeat (first | apply Kd.R_alloc | apply Kd.R_drewN | apply Kd.R_drew)); exact HO_10.out) hb); have n2_ := Aside0.mk (below_step (by repeat (first | (with_reducible first | exact HB.out | apply below_alloc | apply pw_below_drewN | apply below_drew1) | exact HB.out)) hb); clear HO_9; clear HO_10; clear HB; have HO_9 := n0_; have HO_10 := n1_; have HB := n2_; clear n0_ n1_ n2_; (try clear hb); (try clear hb2); (try clear hk); (try clear hi)))
                                              go_ret
                                              try subst hrt
                                              exact ⟨by first | rfl | (simp [errW_none, errW_some] <;> rfl) | (simp only [← hji20]; first | rfl | (simp [errW_none, errW_some] <;> rfl)) | (simp [*, errW_none, errW_some] <;> rfl), by repeat (first | (with_reducible first | exact HB.out | apply below_alloc | apply pw_below_drewN | apply below_drew1) | exact HB.out)⟩)
                                          · rw [if_neg c49] at H
                                            have c49b0 : decide (t156 ≤ t162) = false := decide_eq_false c49
                                            clear c49
                                            have hrt := Option.some.inj H
                                            first | exact absurd hrt (by decide) | skip
                                            all_goals (
                                              go_wp2_with (first | ((with_reducible refine gate_callee (f := 23) rfl ?_); refine goesL_ (some 84) rfl rfl Try.func23 (by kernel_rfl) rfl #[.slice A0 l0.length c0] rfl (by (try simp only [List.map_toArray, List.map_cons, List.map_nil]); first | done | rfl | (simp only [List.length_drop, List.length_take]; rfl)) ?_; (with_reducible refine (intrinsic_MinMax.calls _ _ l0 t155 t156 t157 _ ?side1 ?side2 A40.out).mono ?_); (case side1 => repeat (first | exact (Kd.C_below HR0.out HB.out) | (with_reducible refine Kd.C_alloc ?_ _) | (with_reducible refine Kd.C_drewN ?_ _) | (with_reducible refine Kd.C_drew ?_))); (case side2 => exact HC0.out); rintro e w55 ⟨rfl, hb⟩; refine ⟨_, rfl, ?_⟩; have n0_ := Aside0.mk (Kd.R_below (by (with_reducible repeat (first | apply Kd.R_alloc | apply Kd.R_drewN | apply Kd.R_drew)); exact HO_9.out) hb); have n1_ := Aside0.mk (Kd.R_below (by (with_reducible repeat (first | apply Kd.R_alloc | apply Kd.R_drewN | apply Kd.R_drew)); exact HO_10.out) hb); have n2_ := Aside0.mk (below_step (by repeat (first | (with_reducible first | exact HB.out | apply below_alloc | apply pw_below_drewN | apply below_drew1) | exact HB.out)) hb); clear HO_9; clear HO_10; clear HB; have HO_9 := n0_; have HO_10 := n1_; have HB := n2_; clear n0_ n1_ n2_; (try clear hb); (try clear hb2); (try clear hk); (try clear hi)) | ((with_reducible refine gate_callee (f := 23) rfl ?_); refine goesL_ (some 90) rfl rfl Try.func23 (by kernel_rfl) rfl #[.slice (some ⟨go23, 0, none⟩) y145.length co23] rfl (by (try simp only [List.map_toArray, List.map_cons, List.map_nil]); first | done | rfl | (simp only [List.length_drop, List.length_take]; rfl)) ?_; (with_reducible refine (intrinsic_MinMax.calls _ _ y145 t158 t159 t160 _ ?side1 ?side2 A41.out).mono ?_); (case side1 => repeat (first | exact (Kd.R_reads' HO_9.out).2.2 | (with_reducible refine Kd.C_alloc ?_ _) | (with_reducible refine Kd.C_drewN ?_ _) | (with_reducible refine Kd.C_drew ?_))); (case side2 => exact (Kd.R_reads' HO_9.out).2.1); rintro e w56 ⟨rfl, hb⟩; refine ⟨_, rfl, ?_⟩; have n0_ := Aside0.mk (Kd.R_below (by (with_reducible repeat (first | apply Kd.R_alloc | apply Kd.R_drewN | apply Kd.R_drew)); exact HO_9.out) hb); have n1_ := Aside0.mk (Kd.R_below (by (with_reducible repeat (first | apply Kd.R_alloc | apply Kd.R_drewN | apply Kd.R_drew)); exact HO_10.out) hb); have n2_ := Aside0.mk (below_step (by repeat (first | (with_reducible first | exact HB.out | apply below_alloc | apply pw_below_drewN | apply below_drew1) | exact HB.out)) hb); clear HO_9; clear HO_10; clear HB; have HO_9 := n0_; have HO_10 := n1_; have HB := n2_; clear n0_ n1_ n2_; (try clear hb); (try clear hb2); (try clear hk); (try clear hi)) | ((with_reducible refine gate_callee (f := 23) rfl ?_); refine goesL_ (some 96) rfl rfl Try.func23 (by kernel_rfl) rfl #[.slice (some ad152) x10_25.length co35] rfl (by (try simp only [List.map_toArray, List.map_cons, List.map_nil]); first | done | rfl | (simp only [List.length_drop, List.length_take]; rfl)) ?_; (with_reducible refine (intrinsic_MinMax.calls _ _ x10_25 t161 t162 t163 _ ?side1 ?side2 A42.out).mono ?_); (case side1 => repeat (first | exact (Kd.R_reads' HO_10.out).2.2 | (with_reducible refine Kd.C_alloc ?_ _) | (with_reducible refine Kd.C_drewN ?_ _) | (with_reducible refine Kd.C_drew ?_))); (case side2 => exact (Kd.R_reads' HO_10.out).2.1); rintro e w57 ⟨rfl, hb⟩; refine ⟨_, rfl, ?_⟩; have n0_ := Aside0.mk (Kd.R_below (by (with_reducible repeat (first | apply Kd.R_alloc | apply Kd.R_drewN | apply Kd.R_drew)); exact HO_9.out) hb); have n1_ := Aside0.mk (Kd.R_below (by (with_reducible repeat (first | apply Kd.R_alloc | apply Kd.R_drewN | apply Kd.R_drew)); exact HO_10.out) hb); have n2_ := Aside0.mk (below_step (by repeat (first | (with_reducible first | exact HB.out | apply below_alloc | apply pw_below_drewN | apply below_drew1) | exact HB.out)) hb); clear HO_9; clear HO_10; clear HB; have HO_9 := n0_; have HO_10 := n1_; have HB := n2_; clear n0_ n1_ n2_; (try clear hb); (try clear hb2); (try clear hk); (try clear hi)))
                                              go_ret
                                              try subst hrt
                                              exact ⟨by first | rfl | (simp [errW_none, errW_some] <;> rfl) | (simp only [← hji20]; first | rfl | (simp [errW_none, errW_some] <;> rfl)) | (simp [*, errW_none, errW_some] <;> rfl), by repeat (first | (with_reducible first | exact HB.out | apply below_alloc | apply pw_below_drewN | apply below_drew1) | exact HB.out)⟩)
                                        · rw [if_neg c48] at H
                                          have c48b0 : decide (t155 ≤ t161) = false := decide_eq_false c48
                                          clear c48
                                          have hrt := Option.some.inj H
                                          first | exact absurd hrt (by decide) | skip
                                          all_goals (
                                            go_wp2_with (first | ((with_reducible refine gate_callee (f := 23) rfl ?_); refine goesL_ (some 84) rfl rfl Try.func23 (by kernel_rfl) rfl #[.slice A0 l0.length c0] rfl (by (try simp only [List.map_toArray, List.map_cons, List.map_nil]); first | done | rfl | (simp only [List.length_drop, List.length_take]; rfl)) ?_; (with_reducible refine (intrinsic_MinMax.calls _ _ l0 t155 t156 t157 _ ?side1 ?side2 A40.out).mono ?_); (case side1 => repeat (first | exact (Kd.C_below HR0.out HB.out) | (with_reducible refine Kd.C_alloc ?_ _) | (with_reducible refine Kd.C_drewN ?_ _) | (with_reducible refine Kd.C_drew ?_))); (case side2 => exact HC0.out); rintro e w58 ⟨rfl, hb⟩; refine ⟨_, rfl, ?_⟩; have n0_ := Aside0.mk (Kd.R_below (by (with_reducible repeat (first | apply Kd.R_alloc | apply Kd.R_drewN | apply Kd.R_drew)); exact HO_9.out) hb); have n1_ := Aside0.mk (Kd.R_below (by (with_reducible repeat (first | apply Kd.R_alloc | apply Kd.R_drewN | apply Kd.R_drew)); exact HO_10.out) hb); have n2_ := Aside0.mk (below_step (by repeat (first | (with_reducible first | exact HB.out | apply below_alloc | apply pw_below_drewN | apply below_drew1) | exact HB.out)) hb); clear HO_9; clear HO_10; clear HB; have HO_9 := n0_; have HO_10 := n1_; have HB := n2_; clear n0_ n1_ n2_; (try clear hb); (try clear hb2); (try clear hk); (try clear hi)) | ((with_reducible refine gate_callee (f := 23) rfl ?_); refine goesL_ (some 90) rfl rfl Try.func23 (by kernel_rfl) rfl #[.slice (some ⟨go23, 0, none⟩) y145.length co23] rfl (by (try simp only [List.map_toArray, List.map_cons, List.map_nil]); first | done | rfl | (simp only [List.length_drop, List.length_take]; rfl)) ?_; (with_reducible refine (intrinsic_MinMax.calls _ _ y145 t158 t159 t160 _ ?side1 ?side2 A41.out).mono ?_); (case side1 => repeat (first | exact (Kd.R_reads' HO_9.out).2.2 | (with_reducible refine Kd.C_alloc ?_ _) | (with_reducible refine Kd.C_drewN ?_ _) | (with_reducible refine Kd.C_drew ?_))); (case side2 => exact (Kd.R_reads' HO_9.out).2.1); rintro e w59 ⟨rfl, hb⟩; refine ⟨_, rfl, ?_⟩; have n0_ := Aside0.mk (Kd.R_below (by (with_reducible repeat (first | apply Kd.R_alloc | apply Kd.R_drewN | apply Kd.R_drew)); exact HO_9.out) hb); have n1_ := Aside0.mk (Kd.R_below (by (with_reducible repeat (first | apply Kd.R_alloc | apply Kd.R_drewN | apply Kd.R_drew)); exact HO_10.out) hb); have n2_ := Aside0.mk (below_step (by repeat (first | (with_reducible first | exact HB.out | apply below_alloc | apply pw_below_drewN | apply below_drew1) | exact HB.out)) hb); clear HO_9; clear HO_10; clear HB; have HO_9 := n0_; have HO_10 := n1_; have HB := n2_; clear n0_ n1_ n2_; (try clear hb); (try clear hb2); (try clear hk); (try clear hi)) | ((with_reducible refine gate_callee (f := 23) rfl ?_); refine goesL_ (some 96) rfl rfl Try.func23 (by kernel_rfl) rfl #[.slice (some ad152) x10_25.length co35] rfl (by (try simp only [List.map_toArray, List.map_cons, List.map_nil]); first | done | rfl | (simp only [List.length_drop, List.length_take]; rfl)) ?_; (with_reducible refine (intrinsic_MinMax.calls _ _ x10_25 t161 t162 t163 _ ?side1 ?side2 A42.out).mono ?_); (case side1 => repeat (first | exact (Kd.R_reads' HO_10.out).2.2 | (with_reducible refine Kd.C_alloc ?_ _) | (with_reducible refine Kd.C_drewN ?_ _) | (with_reducible refine Kd.C_drew ?_))); (case side2 => exact (Kd.R_reads' HO_10.out).2.1); rintro e w60 ⟨rfl, hb⟩; refine ⟨_, rfl, ?_⟩; have n0_ := Aside0.mk (Kd.R_below (by (with_reducible repeat (first | apply Kd.R_alloc | apply Kd.R_drewN | apply Kd.R_drew)); exact HO_9.out) hb); have n1_ := Aside0.mk (Kd.R_below (by (with_reducible repeat (first | apply Kd.R_alloc | apply Kd.R_drewN | apply Kd.R_drew)); exact HO_10.out) hb); have n2_ := Aside0.mk (below_step (by repeat (first | (with_reducible first | exact HB.out | apply below_alloc | apply pw_below_drewN | apply below_drew1) | exact HB.out)) hb); clear HO_9; clear HO_10; clear HB; have HO_9 := n0_; have HO_10 := n1_; have HB := n2_; clear n0_ n1_ n2_; (try clear hb); (try clear hb2); (try clear hk); (try clear hi)))
                                            go_ret
                                            try subst hrt
                                            exact ⟨by first | rfl | (simp [errW_none, errW_some] <;> rfl) | (simp only [← hji20]; first | rfl | (simp [errW_none, errW_some] <;> rfl)) | (simp [*, errW_none, errW_some] <;> rfl), by repeat (first | (with_reducible first | exact HB.out | apply below_alloc | apply pw_below_drewN | apply below_drew1) | exact HB.out)⟩)
                                      · rw [if_neg c47] at H
                                        have c47b0 : (t159 == t156) = false := beq_eq_false_iff_ne.mpr c47
                                        have c47b1 : (t159 != t156) = true := bne_iff_ne.mpr c47
                                        have hrt := Option.some.inj H
                                        first | exact absurd hrt (by decide) | skip
                                        all_goals (
                                          go_wp2_with (first | ((with_reducible refine gate_callee (f := 23) rfl ?_); refine goesL_ (some 84) rfl rfl Try.func23 (by kernel_rfl) rfl #[.slice A0 l0.length c0] rfl (by (try simp only [List.map_toArray, List.map_cons, List.map_nil]); first | done | rfl | (simp only [List.length_drop, List.length_take]; rfl)) ?_; (with_reducible refine (intrinsic_MinMax.calls _ _ l0 t155 t156 t157 _ ?side1 ?side2 A40.out).mono ?_); (case side1 => repeat (first | exact (Kd.C_below HR0.out HB.out) | (with_reducible refine Kd.C_alloc ?_ _) | (with_reducible refine Kd.C_drewN ?_ _) | (with_reducible refine Kd.C_drew ?_))); (case side2 => exact HC0.out); rintro e w61 ⟨rfl, hb⟩; refine ⟨_, rfl, ?_⟩; have n0_ := Aside0.mk (Kd.R_below (by (with_reducible repeat (first | apply Kd.R_alloc | apply Kd.R_drewN | apply Kd.R_drew)); exact HO_9.out) hb); have n1_ := Aside0.mk (Kd.R_below (by (with_reducible repeat (first | apply Kd.R_alloc | apply Kd.R_drewN | apply Kd.R_drew)); exact HO_10.out) hb); have n2_ := Aside0.mk (below_step (by repeat (first | (with_reducible first | exact HB.out | apply below_alloc | apply pw_below_drewN | apply below_drew1) | exact HB.out)) hb); clear HO_9; clear HO_10; clear HB; have HO_9 := n0_; have HO_10 := n1_; have HB := n2_; clear n0_ n1_ n2_; (try clear hb); (try clear hb2); (try clear hk); (try clear hi)) | ((with_reducible refine gate_callee (f := 23) rfl ?_); refine goesL_ (some 90) rfl rfl Try.func23 (by kernel_rfl) rfl #[.slice (some ⟨go23, 0, none⟩) y145.length co23] rfl (by (try simp only [List.map_toArray, List.map_cons, List.map_nil]); first | done | rfl | (simp only [List.length_drop, List.length_take]; rfl)) ?_; (with_reducible refine (intrinsic_MinMax.calls _ _ y145 t158 t159 t160 _ ?side1 ?side2 A41.out).mono ?_); (case side1 => repeat (first | exact (Kd.R_reads' HO_9.out).2.2 | (with_reducible refine Kd.C_alloc ?_ _) | (with_reducible refine Kd.C_drewN ?_ _) | (with_reducible refine Kd.C_drew ?_))); (case side2 => exact (Kd.R_reads' HO_9.out).2.1); rintro e w62 ⟨rfl, hb⟩; refine ⟨_, rfl, ?_⟩; have n0_ := Aside0.mk (Kd.R_below (by (with_reducible repeat (first | apply Kd.R_alloc | apply Kd.R_drewN | apply Kd.R_drew)); exact HO_9.out) hb); have n1_ := Aside0.mk (Kd.R_below (by (with_reducible repeat (first | apply Kd.R_alloc | apply Kd.R_drewN | apply Kd.R_drew)); exact HO_10.out) hb); have n2_ := Aside0.mk (below_step (by repeat (first | (with_reducible first | exact HB.out | apply below_alloc | apply pw_below_drewN | apply below_drew1) | exact HB.out)) hb); clear HO_9; clear HO_10; clear HB; have HO_9 := n0_; have HO_10 := n1_; have HB := n2_; clear n0_ n1_ n2_; (try clear hb); (try clear hb2); (try clear hk); (try clear hi)) | ((with_reducible refine gate_callee (f := 23) rfl ?_); refine goesL_ (some 96) rfl rfl Try.func23 (by kernel_rfl) rfl #[.slice (some ad152) x10_25.length co35] rfl (by (try simp only [List.map_toArray, List.map_cons, List.map_nil]); first | done | rfl | (simp only [List.length_drop, List.length_take]; rfl)) ?_; (with_reducible refine (intrinsic_MinMax.calls _ _ x10_25 t161 t162 t163 _ ?side1 ?side2 A42.out).mono ?_); (case side1 => repeat (first | exact (Kd.R_reads' HO_10.out).2.2 | (with_reducible refine Kd.C_alloc ?_ _) | (with_reducible refine Kd.C_drewN ?_ _) | (with_reducible refine Kd.C_drew ?_))); (case side2 => exact (Kd.R_reads' HO_10.out).2.1); rintro e w63 ⟨rfl, hb⟩; refine ⟨_, rfl, ?_⟩; have n0_ := Aside0.mk (Kd.R_below (by (with_reducible repeat (first | apply Kd.R_alloc | apply Kd.R_drewN | apply Kd.R_drew)); exact HO_9.out) hb); have n1_ := Aside0.mk (Kd.R_below (by (with_reducible repeat (first | apply Kd.R_alloc | apply Kd.R_drewN | apply Kd.R_drew)); exact HO_10.out) hb); have n2_ := Aside0.mk (below_step (by repeat (first | (with_reducible first | exact HB.out | apply below_alloc | apply pw_below_drewN | apply below_drew1) | exact HB.out)) hb); clear HO_9; clear HO_10; clear HB; have HO_9 := n0_; have HO_10 := n1_; have HB := n2_; clear n0_ n1_ n2_; (try clear hb); (try clear hb2); (try clear hk); (try clear hi)))
                                          go_ret
                                          try subst hrt
                                          exact ⟨by first | rfl | (simp [errW_none, errW_some] <;> rfl) | (simp only [← hji20]; first | rfl | (simp [errW_none, errW_some] <;> rfl)) | (simp [*, errW_none, errW_some] <;> rfl), by repeat (first | (with_reducible first | exact HB.out | apply below_alloc | apply pw_below_drewN | apply below_drew1) | exact HB.out)⟩)
                                    · rw [if_neg c46] at H
                                      have c46b0 : decide (t158 ≤ t155) = false := decide_eq_false c46
                                      clear c46
                                      have hrt := Option.some.inj H
                                      first | exact absurd hrt (by decide) | skip
                                      all_goals (
                                        go_wp2_with (first | ((with_reducible refine gate_callee (f := 23) rfl ?_); refine goesL_ (some 84) rfl rfl Try.func23 (by kernel_rfl) rfl #[.slice A0 l0.length c0] rfl (by (try simp only [List.map_toArray, List.map_cons, List.map_nil]); first | done | rfl | (simp only [List.length_drop, List.length_take]; rfl)) ?_; (with_reducible refine (intrinsic_MinMax.calls _ _ l0 t155 t156 t157 _ ?side1 ?side2 A40.out).mono ?_); (case side1 => repeat (first | exact (Kd.C_below HR0.out HB.out) | (with_reducible refine Kd.C_alloc ?_ _) | (with_reducible refine Kd.C_drewN ?_ _) | (with_reducible refine Kd.C_drew ?_))); (case side2 => exact HC0.out); rintro e w64 ⟨rfl, hb⟩; refine ⟨_, rfl, ?_⟩; have n0_ := Aside0.mk (Kd.R_below (by (with_reducible repeat (first | apply Kd.R_alloc | apply Kd.R_drewN | apply Kd.R_drew)); exact HO_9.out) hb); have n1_ := Aside0.mk (Kd.R_below (by (with_reducible repeat (first | apply Kd.R_alloc | apply Kd.R_drewN | apply Kd.R_drew)); exact HO_10.out) hb); have n2_ := Aside0.mk (below_step (by repeat (first | (with_reducible first | exact HB.out | apply below_alloc | apply pw_below_drewN | apply below_drew1) | exact HB.out)) hb); clear HO_9; clear HO_10; clear HB; have HO_9 := n0_; have HO_10 := n1_; have HB := n2_; clear n0_ n1_ n2_; (try clear hb); (try clear hb2); (try clear hk); (try clear hi)) | ((with_reducible refine gate_callee (f := 23) rfl ?_); refine goesL_ (some 90) rfl rfl Try.func23 (by kernel_rfl) rfl #[.slice (some ⟨go23, 0, none⟩) y145.length co23] rfl (by (try simp only [List.map_toArray, List.map_cons, List.map_nil]); first | done | rfl | (simp only [List.length_drop, List.length_take]; rfl)) ?_; (with_reducible refine (intrinsic_MinMax.calls _ _ y145 t158 t159 t160 _ ?side1 ?side2 A41.out).mono ?_); (case side1 => repeat (first | exact (Kd.R_reads' HO_9.out).2.2 | (with_reducible refine Kd.C_alloc ?_ _) | (with_reducible refine Kd.C_drewN ?_ _) | (with_reducible refine Kd.C_drew ?_))); (case side2 => exact (Kd.R_reads' HO_9.out).2.1); rintro e w65 ⟨rfl, hb⟩; refine ⟨_, rfl, ?_⟩; have n0_ := Aside0.mk (Kd.R_below (by (with_reducible repeat (first | apply Kd.R_alloc | apply Kd.R_drewN | apply Kd.R_drew)); exact HO_9.out) hb); have n1_ := Aside0.mk (Kd.R_below (by (with_reducible repeat (first | apply Kd.R_alloc | apply Kd.R_drewN | apply Kd.R_drew)); exact HO_10.out) hb); have n2_ := Aside0.mk (below_step (by repeat (first | (with_reducible first | exact HB.out | apply below_alloc | apply pw_below_drewN | apply below_drew1) | exact HB.out)) hb); clear HO_9; clear HO_10; clear HB; have HO_9 := n0_; have HO_10 := n1_; have HB := n2_; clear n0_ n1_ n2_; (try clear hb); (try clear hb2); (try clear hk); (try clear hi)) | ((with_reducible refine gate_callee (f := 23) rfl ?_); refine goesL_ (some 96) rfl rfl Try.func23 (by kernel_rfl) rfl #[.slice (some ad152) x10_25.length co35] rfl (by (try simp only [List.map_toArray, List.map_cons, List.map_nil]); first | done | rfl | (simp only [List.length_drop, List.length_take]; rfl)) ?_; (with_reducible refine (intrinsic_MinMax.calls _ _ x10_25 t161 t162 t163 _ ?side1 ?side2 A42.out).mono ?_); (case side1 => repeat (first | exact (Kd.R_reads' HO_10.out).2.2 | (with_reducible refine Kd.C_alloc ?_ _) | (with_reducible refine Kd.C_drewN ?_ _) | (with_reducible refine Kd.C_drew ?_))); (case side2 => exact (Kd.R_reads' HO_10.out).2.1); rintro e w66 ⟨rfl, hb⟩; refine ⟨_, rfl, ?_⟩; have n0_ := Aside0.mk (Kd.R_below (by (with_reducible repeat (first | apply Kd.R_alloc | apply Kd.R_drewN | apply Kd.R_drew)); exact HO_9.out) hb); have n1_ := Aside0.mk (Kd.R_below (by (with_reducible repeat (first | apply Kd.R_alloc | apply Kd.R_drewN | apply Kd.R_drew)); exact HO_10.out) hb); have n2_ := Aside0.mk (below_step (by repeat (first | (with_reducible first | exact HB.out | apply below_alloc | apply pw_below_drewN | apply below_drew1) | exact HB.out)) hb); clear HO_9; clear HO_10; clear HB; have HO_9 := n0_; have HO_10 := n1_; have HB := n2_; clear n0_ n1_ n2_; (try clear hb); (try clear hb2); (try clear hk); (try clear hi)))
                                        go_ret
                                        try subst hrt
                                        exact ⟨by first | rfl | (simp [errW_none, errW_some] <;> rfl) | (simp only [← hji20]; first | rfl | (simp [errW_none, errW_some] <;> rfl)) | (simp [*, errW_none, errW_some] <;> rfl), by repeat (first | (with_reducible first | exact HB.out | apply below_alloc | apply pw_below_drewN | apply below_drew1) | exact HB.out)⟩)
                                  · rw [if_neg c45] at H
                                    have c45b0 : (t163 == 0) = false := beq_eq_false_iff_ne.mpr c45
                                    have c45b1 : (t163 != 0) = true := bne_iff_ne.mpr c45
                                    have hrt := Option.some.inj H
                                    first | exact absurd hrt (by decide) | skip
                                    all_goals (
                                      go_wp2_with (first | ((with_reducible refine gate_callee (f := 23) rfl ?_); refine goesL_ (some 84) rfl rfl Try.func23 (by kernel_rfl) rfl #[.slice A0 l0.length c0] rfl (by (try simp only [List.map_toArray, List.map_cons, List.map_nil]); first | done | rfl | (simp only [List.length_drop, List.length_take]; rfl)) ?_; (with_reducible refine (intrinsic_MinMax.calls _ _ l0 t155 t156 t157 _ ?side1 ?side2 A40.out).mono ?_); (case side1 => repeat (first | exact (Kd.C_below HR0.out HB.out) | (with_reducible refine Kd.C_alloc ?_ _) | (with_reducible refine Kd.C_drewN ?_ _) | (with_reducible refine Kd.C_drew ?_))); (case side2 => exact HC0.out); rintro e w67 ⟨rfl, hb⟩; refine ⟨_, rfl, ?_⟩; have n0_ := Aside0.mk (Kd.R_below (by (with_reducible repeat (first | apply Kd.R_alloc | apply Kd.R_drewN | apply Kd.R_drew)); exact HO_9.out) hb); have n1_ := Aside0.mk (Kd.R_below (by (with_reducible repeat (first | apply Kd.R_alloc | apply Kd.R_drewN | apply Kd.R_drew)); exact HO_10.out) hb); have n2_ := Aside0.mk (below_step (by repeat (first | (with_reducible first | exact HB.out | apply below_alloc | apply pw_below_drewN | apply below_drew1) | exact HB.out)) hb); clear HO_9; clear HO_10; clear HB; have HO_9 := n0_; have HO_10 := n1_; have HB := n2_; clear n0_ n1_ n2_; (try clear hb); (try clear hb2); (try clear hk); (try clear hi)) | ((with_reducible refine gate_callee (f := 23) rfl ?_); refine goesL_ (some 90) rfl rfl Try.func23 (by kernel_rfl) rfl #[.slice (some ⟨go23, 0, none⟩) y145.length co23] rfl (by (try simp only [List.map_toArray, List.map_cons, List.map_nil]); first | done | rfl | (simp only [List.length_drop, List.length_take]; rfl)) ?_; (with_reducible refine (intrinsic_MinMax.calls _ _ y145 t158 t159 t160 _ ?side1 ?side2 A41.out).mono ?_); (case side1 => repeat (first | exact (Kd.R_reads' HO_9.out).2.2 | (with_reducible refine Kd.C_alloc ?_ _) | (with_reducible refine Kd.C_drewN ?_ _) | (with_reducible refine Kd.C_drew ?_))); (case side2 => exact (Kd.R_reads' HO_9.out).2.1); rintro e w68 ⟨rfl, hb⟩; refine ⟨_, rfl, ?_⟩; have n0_ := Aside0.mk (Kd.R_below (by (with_reducible repeat (first | apply Kd.R_alloc | apply Kd.R_drewN | apply Kd.R_drew)); exact HO_9.out) hb); have n1_ := Aside0.mk (Kd.R_below (by (with_reducible repeat (first | apply Kd.R_alloc | apply Kd.R_drewN | apply Kd.R_drew)); exact HO_10.out) hb); have n2_ := Aside0.mk (below_step (by repeat (first | (with_reducible first | exact HB.out | apply below_alloc | apply pw_below_drewN | apply below_drew1) | exact HB.out)) hb); clear HO_9; clear HO_10; clear HB; have HO_9 := n0_; have HO_10 := n1_; have HB := n2_; clear n0_ n1_ n2_; (try clear hb); (try clear hb2); (try clear hk); (try clear hi)) | ((with_reducible refine gate_callee (f := 23) rfl ?_); refine goesL_ (some 96) rfl rfl Try.func23 (by kernel_rfl) rfl #[.slice (some ad152) x10_25.length co35] rfl (by (try simp only [List.map_toArray, List.map_cons, List.map_nil]); first | done | rfl | (simp only [List.length_drop, List.length_take]; rfl)) ?_; (with_reducible refine (intrinsic_MinMax.calls _ _ x10_25 t161 t162 t163 _ ?side1 ?side2 A42.out).mono ?_); (case side1 => repeat (first | exact (Kd.R_reads' HO_10.out).2.2 | (with_reducible refine Kd.C_alloc ?_ _) | (with_reducible refine Kd.C_drewN ?_ _) | (with_reducible refine Kd.C_drew ?_))); (case side2 => exact (Kd.R_reads' HO_10.out).2.1); rintro e w69 ⟨rfl, hb⟩; refine ⟨_, rfl, ?_⟩; have n0_ := Aside0.mk (Kd.R_below (by (with_reducible repeat (first | apply Kd.R_alloc | apply Kd.R_drewN | apply Kd.R_drew)); exact HO_9.out) hb); have n1_ := Aside0.mk (Kd.R_below (by (with_reducible repeat (first | apply Kd.R_alloc | apply Kd.R_drewN | apply Kd.R_drew)); exact HO_10.out) hb); have n2_ := Aside0.mk (below_step (by repeat (first | (with_reducible first | exact HB.out | apply below_alloc | apply pw_below_drewN | apply below_drew1) | exact HB.out)) hb); clear HO_9; clear HO_10; clear HB; have HO_9 := n0_; have HO_10 := n1_; have HB := n2_; clear n0_ n1_ n2_; (try clear hb); (try clear hb2); (try clear hk); (try clear hi)))
                                      go_ret
                                      try subst hrt
                                      exact ⟨by first | rfl | (simp [errW_none, errW_some] <;> rfl) | (simp only [← hji20]; first | rfl | (simp [errW_none, errW_some] <;> rfl)) | (simp [*, errW_none, errW_some] <;> rfl), by repeat (first | (with_reducible first | exact HB.out | apply below_alloc | apply pw_below_drewN | apply below_drew1) | exact HB.out)⟩)
                                · rw [if_neg c44] at H
                                  have c44b0 : (t160 == 0) = false := beq_eq_false_iff_ne.mpr c44
                                  have c44b1 : (t160 != 0) = true := bne_iff_ne.mpr c44
                                  have hrt := Option.some.inj H
                                  first | exact absurd hrt (by decide) | skip
                                  all_goals (
                                    go_wp2_with (first | ((with_reducible refine gate_callee (f := 23) rfl ?_); refine goesL_ (some 84) rfl rfl Try.func23 (by kernel_rfl) rfl #[.slice A0 l0.length c0] rfl (by (try simp only [List.map_toArray, List.map_cons, List.map_nil]); first | done | rfl | (simp only [List.length_drop, List.length_take]; rfl)) ?_; (with_reducible refine (intrinsic_MinMax.calls _ _ l0 t155 t156 t157 _ ?side1 ?side2 A40.out).mono ?_); (case side1 => repeat (first | exact (Kd.C_below HR0.out HB.out) | (with_reducible refine Kd.C_alloc ?_ _) | (with_reducible refine Kd.C_drewN ?_ _) | (with_reducible refine Kd.C_drew ?_))); (case side2 => exact HC0.out); rintro e w70 ⟨rfl, hb⟩; refine ⟨_, rfl, ?_⟩; have n0_ := Aside0.mk (Kd.R_below (by (with_reducible repeat (first | apply Kd.R_alloc | apply Kd.R_drewN | apply Kd.R_drew)); exact HO_9.out) hb); have n1_ := Aside0.mk (Kd.R_below (by (with_reducible repeat (first | apply Kd.R_alloc | apply Kd.R_drewN | apply Kd.R_drew)); exact HO_10.out) hb); have n2_ := Aside0.mk (below_step (by repeat (first | (with_reducible first | exact HB.out | apply below_alloc | apply pw_below_drewN | apply below_drew1) | exact HB.out)) hb); clear HO_9; clear HO_10; clear HB; have HO_9 := n0_; have HO_10 := n1_; have HB := n2_; clear n0_ n1_ n2_; (try clear hb); (try clear hb2); (try clear hk); (try clear hi)) | ((with_reducible refine gate_callee (f := 23) rfl ?_); refine goesL_ (some 90) rfl rfl Try.func23 (by kernel_rfl) rfl #[.slice (some ⟨go23, 0, none⟩) y145.length co23] rfl (by (try simp only [List.map_toArray, List.map_cons, List.map_nil]); first | done | rfl | (simp only [List.length_drop, List.length_take]; rfl)) ?_; (with_reducible refine (intrinsic_MinMax.calls _ _ y145 t158 t159 t160 _ ?side1 ?side2 A41.out).mono ?_); (case side1 => repeat (first | exact (Kd.R_reads' HO_9.out).2.2 | (with_reducible refine Kd.C_alloc ?_ _) | (with_reducible refine Kd.C_drewN ?_ _) | (with_reducible refine Kd.C_drew ?_))); (case side2 => exact (Kd.R_reads' HO_9.out).2.1); rintro e w71 ⟨rfl, hb⟩; refine ⟨_, rfl, ?_⟩; have n0_ := Aside0.mk (Kd.R_below (by (with_reducible repeat (first | apply Kd.R_alloc | apply Kd.R_drewN | apply Kd.R_drew)); exact HO_9.out) hb); have n1_ := Aside0.mk (Kd.R_below (by (with_reducible repeat (first | apply Kd.R_alloc | apply Kd.R_drewN | apply Kd.R_drew)); exact HO_10.out) hb); have n2_ := Aside0.mk (below_step (by repeat (first | (with_reducible first | exact HB.out | apply below_alloc | apply pw_below_drewN | apply below_drew1) | exact HB.out)) hb); clear HO_9; clear HO_10; clear HB; have HO_9 := n0_; have HO_10 := n1_; have HB := n2_; clear n0_ n1_ n2_; (try clear hb); (try clear hb2); (try clear hk); (try clear hi)) | ((with_reducible refine gate_callee (f := 23) rfl ?_); refine goesL_ (some 96) rfl rfl Try.func23 (by kernel_rfl) rfl #[.slice (some ad152) x10_25.length co35] rfl (by (try simp only [List.map_toArray, List.map_cons, List.map_nil]); first | done | rfl | (simp only [List.length_drop, List.length_take]; rfl)) ?_; (with_reducible refine (intrinsic_MinMax.calls _ _ x10_25 t161 t162 t163 _ ?side1 ?side2 A42.out).mono ?_); (case side1 => repeat (first | exact (Kd.R_reads' HO_10.out).2.2 | (with_reducible refine Kd.C_alloc ?_ _) | (with_reducible refine Kd.C_drewN ?_ _) | (with_reducible refine Kd.C_drew ?_))); (case side2 => exact (Kd.R_reads' HO_10.out).2.1); rintro e w72 ⟨rfl, hb⟩; refine ⟨_, rfl, ?_⟩; have n0_ := Aside0.mk (Kd.R_below (by (with_reducible repeat (first | apply Kd.R_alloc | apply Kd.R_drewN | apply Kd.R_drew)); exact HO_9.out) hb); have n1_ := Aside0.mk (Kd.R_below (by (with_reducible repeat (first | apply Kd.R_alloc | apply Kd.R_drewN | apply Kd.R_drew)); exact HO_10.out) hb); have n2_ := Aside0.mk (below_step (by repeat (first | (with_reducible first | exact HB.out | apply below_alloc | apply pw_below_drewN | apply below_drew1) | exact HB.out)) hb); clear HO_9; clear HO_10; clear HB; have HO_9 := n0_; have HO_10 := n1_; have HB := n2_; clear n0_ n1_ n2_; (try clear hb); (try clear hb2); (try clear hk); (try clear hi)))
                                    go_ret
                                    try subst hrt
                                    exact ⟨by first | rfl | (simp [errW_none, errW_some] <;> rfl) | (simp only [← hji20]; first | rfl | (simp [errW_none, errW_some] <;> rfl)) | (simp [*, errW_none, errW_some] <;> rfl), by repeat (first | (with_reducible first | exact HB.out | apply below_alloc | apply pw_below_drewN | apply below_drew1) | exact HB.out)⟩)
                              · rw [if_neg c43] at H
                                have c43b0 : (t157 == 0) = false := beq_eq_false_iff_ne.mpr c43
                                have c43b1 : (t157 != 0) = true := bne_iff_ne.mpr c43
                                have hrt := Option.some.inj H
                                first | exact absurd hrt (by decide) | skip
                                all_goals (
                                  go_wp2_with (first | ((with_reducible refine gate_callee (f := 23) rfl ?_); refine goesL_ (some 84) rfl rfl Try.func23 (by kernel_rfl) rfl #[.slice A0 l0.length c0] rfl (by (try simp only [List.map_toArray, List.map_cons, List.map_nil]); first | done | rfl | (simp only [List.length_drop, List.length_take]; rfl)) ?_; (with_reducible refine (intrinsic_MinMax.calls _ _ l0 t155 t156 t157 _ ?side1 ?side2 A40.out).mono ?_); (case side1 => repeat (first | exact (Kd.C_below HR0.out HB.out) | (with_reducible refine Kd.C_alloc ?_ _) | (with_reducible refine Kd.C_drewN ?_ _) | (with_reducible refine Kd.C_drew ?_))); (case side2 => exact HC0.out); rintro e w73 ⟨rfl, hb⟩; refine ⟨_, rfl, ?_⟩; have n0_ := Aside0.mk (Kd.R_below (by (with_reducible repeat (first | apply Kd.R_alloc | apply Kd.R_drewN | apply Kd.R_drew)); exact HO_9.out) hb); have n1_ := Aside0.mk (Kd.R_below (by (with_reducible repeat (first | apply Kd.R_alloc | apply Kd.R_drewN | apply Kd.R_drew)); exact HO_10.out) hb); have n2_ := Aside0.mk (below_step (by repeat (first | (with_reducible first | exact HB.out | apply below_alloc | apply pw_below_drewN | apply below_drew1) | exact HB.out)) hb); clear HO_9; clear HO_10; clear HB; have HO_9 := n0_; have HO_10 := n1_; have HB := n2_; clear n0_ n1_ n2_; (try clear hb); (try clear hb2); (try clear hk); (try clear hi)) | ((with_reducible refine gate_callee (f := 23) rfl ?_); refine goesL_ (some 90) rfl rfl Try.func23 (by kernel_rfl) rfl #[.slice (some ⟨go23, 0, none⟩) y145.length co23] rfl (by (try simp only [List.map_toArray, List.map_cons, List.map_nil]); first | done | rfl | (simp only [List.length_drop, List.length_take]; rfl)) ?_; (with_reducible refine (intrinsic_MinMax.calls _ _ y145 t158 t159 t160 _ ?side1 ?side2 A41.out).mono ?_); (case side1 => repeat (first | exact (Kd.R_reads' HO_9.out).2.2 | (with_reducible refine Kd.C_alloc ?_ _) | (with_reducible refine Kd.C_drewN ?_ _) | (with_reducible refine Kd.C_drew ?_))); (case side2 => exact (Kd.R_reads' HO_9.out).2.1); rintro e w74 ⟨rfl, hb⟩; refine ⟨_, rfl, ?_⟩; have n0_ := Aside0.mk (Kd.R_below (by (with_reducible repeat (first | apply Kd.R_alloc | apply Kd.R_drewN | apply Kd.R_drew)); exact HO_9.out) hb); have n1_ := Aside0.mk (Kd.R_below (by (with_reducible repeat (first | apply Kd.R_alloc | apply Kd.R_drewN | apply Kd.R_drew)); exact HO_10.out) hb); have n2_ := Aside0.mk (below_step (by repeat (first | (with_reducible first | exact HB.out | apply below_alloc | apply pw_below_drewN | apply below_drew1) | exact HB.out)) hb); clear HO_9; clear HO_10; clear HB; have HO_9 := n0_; have HO_10 := n1_; have HB := n2_; clear n0_ n1_ n2_; (try clear hb); (try clear hb2); (try clear hk); (try clear hi)) | ((with_reducible refine gate_callee (f := 23) rfl ?_); refine goesL_ (some 96) rfl rfl Try.func23 (by kernel_rfl) rfl #[.slice (some ad152) x10_25.length co35] rfl (by (try simp only [List.map_toArray, List.map_cons, List.map_nil]); first | done | rfl | (simp only [List.length_drop, List.length_take]; rfl)) ?_; (with_reducible refine (intrinsic_MinMax.calls _ _ x10_25 t161 t162 t163 _ ?side1 ?side2 A42.out).mono ?_); (case side1 => repeat (first | exact (Kd.R_reads' HO_10.out).2.2 | (with_reducible refine Kd.C_alloc ?_ _) | (with_reducible refine Kd.C_drewN ?_ _) | (with_reducible refine Kd.C_drew ?_))); (case side2 => exact (Kd.R_reads' HO_10.out).2.1); rintro e w75 ⟨rfl, hb⟩; refine ⟨_, rfl, ?_⟩; have n0_ := Aside0.mk (Kd.R_below (by (with_reducible repeat (first | apply Kd.R_alloc | apply Kd.R_drewN | apply Kd.R_drew)); exact HO_9.out) hb); have n1_ := Aside0.mk (Kd.R_below (by (with_reducible repeat (first | apply Kd.R_alloc | apply Kd.R_drewN | apply Kd.R_drew)); exact HO_10.out) hb); have n2_ := Aside0.mk (below_step (by repeat (first | (with_reducible first | exact HB.out | apply below_alloc | apply pw_below_drewN | apply below_drew1) | exact HB.out)) hb); clear HO_9; clear HO_10; clear HB; have HO_9 := n0_; have HO_10 := n1_; have HB := n2_; clear n0_ n1_ n2_; (try clear hb); (try clear hb2); (try clear hk); (try clear hi)))
                                  go_ret
                                  try subst hrt
                                  exact ⟨by first | rfl | (simp [errW_none, errW_some] <;> rfl) | (simp only [← hji20]; first | rfl | (simp [errW_none, errW_some] <;> rfl)) | (simp [*, errW_none, errW_some] <;> rfl), by repeat (first | (with_reducible first | exact HB.out | apply below_alloc | apply pw_below_drewN | apply below_drew1) | exact HB.out)⟩)
                        · rw [if_neg c25] at H
                          exact absurd H (by simp)
                      · rw [if_neg c24] at H
                        exact absurd H (by simp)
                    · rw [if_neg c22] at H
                      exact absurd H (by simp)
                  · rw [if_neg c21] at H
                    exact absurd H (by simp)
                · rw [if_neg c19] at H
                  exact absurd H (by simp)

end Go.Proofs.Ytkcmehijmgjgfaa.MIntrinsicSofter
