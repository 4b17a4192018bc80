-- Written by a program of this session for this claim.
import Derived.Test.YtkcmehijmgjgfaaMIntrinsicCutsx0
import Derived.Test.YtkcmehijmgjgfaaMIntrinsicCutsx3
namespace Go.Proofs.Ytkcmehijmgjgfaa.MIntrinsicCuts
open Go.RowKit Go.Proofs.YtkcmehijmgjgfaaW.PrintWords Go.Proofs.YtkcmehijmgjgfaaW.PrintLast Go.Proofs.YtkcmehijmgjgfaaW.PrintMore
attribute [local go_sem] max2_int min2_int max_two min_two max_three min_three max_four min_four   -- for this text's walks alone
set_option linter.unusedVariables false
set_option linter.unusedSimpArgs false

attribute [local irreducible] Go.wpStill Go.wpQuiet
/-! ### intrinsic_MinMax: function 23 -/
-- needs func trim.Fits
section
open Go.Proofs.Ytkcmehijmgjgfaa.It Go.Shelf
attribute [local go_sem] Oper.semAt_some

def stAt (ps : List (Nat × Nat)) (k : Nat) : Nat := if k = 0 then 0 else (ps.getD (k - 1) (0, 0)).2
/-- The parts of a row that is cut behind each forced break, and ahead of each cell of which cut is so, but a line's first. -/
structure PartS (cut : S25 → Bool) (l : List S25) (ps : List (Nat × Nat)) : Prop where
  chain : ∀ k (h : k < ps.length), (ps[k]'h).1 = stAt ps k
  lt : ∀ k (h : k < ps.length), (ps[k]'h).1 < (ps[k]'h).2 ∧ (ps[k]'h).2 ≤ l.length
  inner : ∀ k (h : k < ps.length) (j : Nat), (ps[k]'h).1 ≤ j → j + 1 < (ps[k]'h).2 → (l.getD j z25).f0 ≠ 5 ∧ cut (l.getD (j + 1) z25) = false
  stop : ∀ k (h : k < ps.length) (j : Nat), (ps[k]'h).2 = j + 1 → j + 1 = l.length ∨ (l.getD j z25).f0 = 5 ∨ cut (l.getD (j + 1) z25) = true
  fin : stAt ps ps.length = l.length
theorem stAt_succ (ps : List (Nat × Nat)) (k : Nat) (h : k < ps.length) : stAt ps (k + 1) = (ps[k]'h).2 := by
  unfold stAt
  rw [if_neg (by omega), Nat.add_sub_cancel, List.getD_eq_getElem?_getD, List.getElem?_eq_getElem h]
  rfl
def encPart (p : Nat × Nat) : Array Value := #[.agg #[.int .i64 (p.1 : Int), .int .i64 (p.2 : Int)]]
theorem cell25 {w0 W : World} {A : Option Addr} {l0 : List S25} (h : Kd.C k25 w0 A l0.length l0) (hB : Below w0.heap.size w0 W) (j : Nat) (hj : j < l0.length) :
    ∃ ad, A = some ad ∧ W.cell? (ad.add (j * 6)) = some (.int .u8 (l0.getD j z25).f0) ∧ W.cell? ⟨(ad.add (j * 6)).block, (ad.add (j * 6)).off + 1, none⟩ = some (.int .i64 (l0.getD j z25).f1) ∧ W.cell? ⟨(ad.add (j * 6)).block, (ad.add (j * 6)).off + 2, none⟩ = some (.int .i64 (l0.getD j z25).f2) ∧
      W.cell? ⟨(ad.add (j * 6)).block, (ad.add (j * 6)).off + 3, none⟩ = some (.int .i64 (l0.getD j z25).f3) ∧ W.cell? ⟨(ad.add (j * 6)).block, (ad.add (j * 6)).off + 4, none⟩ = some (.bool (l0.getD j z25).f4) ∧ W.cell? ⟨(ad.add (j * 6)).block, (ad.add (j * 6)).off + 5, none⟩ = some (.bool (l0.getD j z25).f5) := by
  obtain ⟨ad, e, d0, d1, d2, d3, d4, d5⟩ := at_T25 h (j : Int) (by omega) (by omega)
  have ec : rd_T25 l0 (j : Int) = l0.getD j z25 := by unfold rd_T25; rw [Int.toNat_natCast]
  rw [ec, Int.toNat_natCast] at d0 d1 d2 d3 d4 d5
  exact ⟨ad, e, pw_cell_below hB d0, pw_cell_below hB d1, pw_cell_below hB d2, pw_cell_below hB d3, pw_cell_below hB d4, pw_cell_below hB d5⟩

set_option maxRecDepth 100000 in
set_option maxHeartbeats 16000000 in
theorem parts_seq (m : Nat) (w0 w : World) (hb : Below w0.heap.size w0 w) (A0 : Option Addr) (c0 : Nat) (l0 : List S25) (fid : Nat) (cap : Array Value)
    (hC0 : Kd.C k25 w0 A0 l0.length l0) (bl bc : Nat) (hl : Boxed w bl 22 (.slice A0 l0.length c0)) (hs : Boxed w bc 94 (.func (.func fid) #[] cap))
    (Oc : Nat → Prop) (hOl : ¬ Oc bl) (hOs : ¬ Oc bc) (hO : ∀ i, i < w0.heap.size → ¬ Oc i)
    (cut : S25 → Bool) (eg : ∀ args w, (callFunc fid args).run Try.prog w = .ok (.enter fid args) w)
    (hp : ∀ c W, Calls Try.prog fid (#[encC c] ++ cap) W fun e W' => e = .returned (.bool (cut c)) ∧ Below W.heap.size W W')
    (ps : List (Nat × Nat)) (hps : PartS cut l0 ps) (hlen : l0.length < 4611686018427387904) :
    Seq (m + 1) Try.prog 89 #[.pointer (some ⟨bl, 0, none⟩), .pointer (some ⟨bc, 0, none⟩)] (ps.map encPart) (fun _ => False) Oc w := by
  intro l J Jx W hW hJ hJx hY h0
  have HX := Aside0.mk hps
  have HC0 := Aside0.mk hC0
  have HP := Aside0.mk hp
  clear hps hC0 hp
  refine callsIn_of_wp Try.func89 rfl trivial ?_ rfl
  simp only [Try.ntmps89, List.size_toArray, List.length_cons, List.length_nil, Nat.reduceAdd, Nat.reduceSub, Array.replicate_succ, Array.replicate_zero, List.push_toArray, List.append_toArray, List.nil_append, List.cons_append]
  gi_wp2
  gi_loopw [4] (fun f wr => ∃ (k : Nat), k ≤ ps.length ∧ f = .int .i64 (stAt ps k : Nat) ∧ J k wr ∧ Aside0 (Lv Oc w wr))
    (fun f _ => l0.length - (intOf f).toNat)
  case atStart => exact ⟨0, by omega, rfl, h0, ⟨hW⟩⟩
  case round =>
    obtain ⟨k, hk, rfl, hJs, HL⟩ := hrel
    obtain ⟨s, hs0⟩ : ∃ s, s = stAt ps k := ⟨_, rfl⟩
    rw [← hs0]
    have HS := Aside0.mk hs0
    clear hs0
    have hlW := (boxed_lv HL.out hl hOl).cell
    by_cases hlt : k < ps.length
    · obtain ⟨a1, a2⟩ := HX.out.lt k hlt
      have a0 := HX.out.chain k hlt
      rw [← HS.out] at a0
      obtain ⟨e, he⟩ : ∃ e, e + 1 = (ps[k]'hlt).2 := ⟨(ps[k]'hlt).2 - 1, by omega⟩
      have hse : s ≤ e := by omega
      have hel : e + 1 ≤ l0.length := by omega
      have HE := Aside0.mk he
      have HA0 := Aside0.mk a0
      have y0 : decide ((s : Int) < (l0.length : Int)) = true := by simp; omega
      have y0' : decide (s < l0.length) = true := by simp; omega
      clear a1 a2 a0 he
      obtain ⟨wo, hwo⟩ : ∃ wo : World, wo = wr := ⟨_, rfl⟩
      subst hwo
      gi_wp2
      gi_loopw [5] (fun t wr => ∃ (i : Nat), s ≤ i ∧ i ≤ e ∧ t = .int .i64 ((i : Int) + 1) ∧ J k wr ∧ Aside0 (Lv Oc w wr))
        (fun t _ => l0.length - (intOf t).toNat)
      case atStart => exact ⟨s, by omega, hse, rfl, hJs, HL⟩
      case round =>
        obtain ⟨i, hi1, hi2, rfl, hJi, HLi⟩ := hrel
        clear hlW hJs HL
        have hlW := (boxed_lv HLi.out hl hOl).cell
        have hsW := (boxed_lv HLi.out hs hOs).cell
        have hBw : Below w0.heap.size w0 wr := hb.trans (HLi.out.below hb.size hO)
        obtain ⟨ad, ea, p0, -, -, -, -, -⟩ := cell25 HC0.out hBw i (by omega)
        cases ea
        by_cases hie : i < e
        · obtain ⟨g1, g2⟩ := HX.out.inner k hlt i (by rw [HA0.out]; exact hi1) (by rw [← HE.out]; omega)
          obtain ⟨ad', ea, d0, d1, d2, d3, d4, d5⟩ := cell25 HC0.out hBw (i + 1) (by omega)
          cases ea
          obtain ⟨c, hc⟩ : ∃ c, c = l0.getD (i + 1) z25 := ⟨_, rfl⟩
          obtain ⟨x, hx⟩ : ∃ x, x = (l0.getD i z25).f0 := ⟨_, rfl⟩
          rw [← hc] at d0 d1 d2 d3 d4 d5 g2
          rw [← hx] at p0 g1
          have G2 := Aside0.mk g2
          have y1 : decide ((i : Int) + 1 < (l0.length : Int)) = true := by simp; omega
          have y2 : (x != 5) = true := by rw [bne_iff_ne]; exact g1
          have q1 : i < l0.length := by omega
          have q2 : i + 1 < l0.length := by omega
          have q3 : (i : Int) + 1 < (l0.length : Int) := by omega
          have z1 : IntKind.i64.wrap ((i : Int) + 1 - 1) = (i : Int) := by rw [IntWalk.i64_in _ (by omega)]; omega
          have z2 : IntKind.i64.wrap (i : Int) = (i : Int) := IntWalk.i64_in _ (by omega)
          have z3 : (0 : Int) ≤ (i : Int) + 1 := by omega
          have z4 : ((i : Int) + 1).toNat = i + 1 := by omega
          clear hc hx g1 g2 hBw
          gi_wp2_with fail
          refine wpIn_wide.2 ?_
          refine wp_region_still_tail 19 (by kernel_rfl) (by kernel_rfl) ?_
          simp only [List.take_succ_cons, List.take_zero, List.drop_succ_cons, List.drop_zero]
          iterate 19 still_step
          refine wpStill_nil ?_
          clear z1 z2 z3 z4
          go_wp2_with fail
          refine (HP.out c _).mono ?_
          rintro e1 w1 ⟨rfl, hb1⟩
          rw [G2.out]
          have hL1 : ∀ O, Lv O wr w1 := fun O => (Lv.drew O wr).trans (Lv.of_below hb1)
          have hJ1 : J k w1 := hJ _ _ _ hJi (hL1 _)
          have HL1 := Aside0.mk (HLi.out.trans (hL1 _))
          clear hb1 hL1 hlW hsW hJi HLi p0 d0 d1 d2 d3 d4 d5
          go_wp2_with fail
          gi_wp2
          go_roundw
          case rel => exact ⟨i + 1, by omega, by omega, by go_num, hJ1, HL1⟩
          case measure => simp [intOf]; omega
        · obtain rfl : i = e := by omega
          have hJe : ∀ w1, (∀ O, Lv O wr w1) → J k w1 := fun w1 h => hJ _ _ _ hJi (h _)
          have hpk : ps.drop k = (s, i + 1) :: ps.drop (k + 1) := by
            rw [List.drop_eq_getElem_cons hlt]
            congr 1
            exact Prod.ext HA0.out HE.out.symm
          have HPK := Aside0.mk hpk
          have hst : stAt ps (k + 1) = i + 1 := by rw [stAt_succ ps k hlt]; exact HE.out.symm
          have HST := Aside0.mk hst
          have q1 : i < l0.length := by omega
          have z1 : IntKind.i64.wrap ((i : Int) + 1 - 1) = (i : Int) := by rw [IntWalk.i64_in _ (by omega)]; omega
          have z2 : IntKind.i64.wrap (i : Int) = (i : Int) := IntWalk.i64_in _ (by omega)
          have z3 : (0 : Int) ≤ (i : Int) + 1 := by omega
          have z4 : ((i : Int) + 1).toNat = i + 1 := by omega
          obtain ⟨x, hx⟩ : ∃ x, x = (l0.getD i z25).f0 := ⟨_, rfl⟩
          rw [← hx] at p0
          have HXX := Aside0.mk hx
          clear hpk hst hx hJi
          have hstop := HX.out.stop k hlt i HE.out.symm
          by_cases hil : i + 1 < l0.length
          · have y1 : decide ((i : Int) + 1 < (l0.length : Int)) = true := by simp; omega
            obtain ⟨ad', ea, d0, d1, d2, d3, d4, d5⟩ := cell25 HC0.out hBw (i + 1) (by omega)
            cases ea
            obtain ⟨c, hc⟩ : ∃ c, c = l0.getD (i + 1) z25 := ⟨_, rfl⟩
            rw [← hc] at d0 d1 d2 d3 d4 d5 hstop
            rw [← HXX.out] at hstop
            by_cases h5 : x = 5
            · have y2 : (x != 5) = false := by rw [bne_eq_false_iff_eq]; exact h5
              clear hstop hc hBw h5
              gi_wp2_with fail
              refine wpIn_wide.2 ?_
              refine wp_region_still_tail 19 (by kernel_rfl) (by kernel_rfl) ?_
              simp only [List.take_succ_cons, List.take_zero, List.drop_succ_cons, List.drop_zero]
              iterate 19 still_step
              refine wpStill_nil ?_
              clear z1 z2 z3 z4 q1
              have hL1 : ∀ O, Lv O wr wr.drew := fun O => Lv.drew O wr
              have hJ1 := hJe _ hL1
              have HL1 := Aside0.mk (HLi.out.trans (hL1 _))
              clear hL1 hlW hsW hJe HLi p0 d0 d1 d2 d3 d4 d5 y1 y2
              obtain ⟨fn, tm, asg, bd, hyl, hR⟩ := yieldAt_of hY HPK.out _ hJ1
              unfold encPart at hyl
              dsimp only at hyl
              rw [show ((i + 1 : Nat) : Int) = (i : Int) + 1 from rfl] at hyl
              go_wp2_with fail
              gi_wp2_with fail
              refine hR.mono ?_
              rintro e W3 (⟨rfl, hJ3, hk3⟩ | ⟨rfl, hJx3, hk3⟩)
              · have HL3 := Aside0.mk (HL1.out.trans hk3)
                clear hk3 hyl hR
                gi_wp2
                go_roundw
                case rel => exact ⟨k + 1, by omega, by rw [HST.out]; rfl, hJ3, HL3⟩
                case measure => simp [intOf]; omega
              · clear hk3 hyl hR
                gi_wp2
                refine bodyPost_ret (results_none rfl _ _ _) rfl ?_
                exact ⟨⟨_, rfl⟩, .inr ⟨k + 1, by rw [List.length_map]; omega, hJx3⟩⟩
            · have y2 : (x != 5) = true := by rw [bne_iff_ne]; exact h5
              have hcut : cut c = true := by
                rcases hstop with h | h | h
                · omega
                · exact absurd h h5
                · exact h
              have HCUT := Aside0.mk hcut
              have q2 : i + 1 < l0.length := by omega
              have q3 : (i : Int) + 1 < (l0.length : Int) := by omega
              clear hstop hc hBw h5 hcut
              gi_wp2_with fail
              refine wpIn_wide.2 ?_
              refine wp_region_still_tail 19 (by kernel_rfl) (by kernel_rfl) ?_
              simp only [List.take_succ_cons, List.take_zero, List.drop_succ_cons, List.drop_zero]
              iterate 19 still_step
              refine wpStill_nil ?_
              clear z1 z2 z3 z4 q1 q2 q3
              go_wp2_with fail
              refine (HP.out c _).mono ?_
              rintro e1 w1 ⟨rfl, hb1⟩
              rw [HCUT.out]
              have hL1 : ∀ O, Lv O wr w1 := fun O => (Lv.drew O wr).trans (Lv.of_below hb1)
              have hJ1 := hJe _ hL1
              have HL1 := Aside0.mk (HLi.out.trans (hL1 _))
              clear hb1 hL1 hlW hsW hJe HLi p0 d0 d1 d2 d3 d4 d5 y1 y2
              obtain ⟨fn, tm, asg, bd, hyl, hR⟩ := yieldAt_of hY HPK.out _ hJ1
              unfold encPart at hyl
              dsimp only at hyl
              rw [show ((i + 1 : Nat) : Int) = (i : Int) + 1 from rfl] at hyl
              go_wp2_with fail
              gi_wp2_with fail
              refine hR.mono ?_
              rintro e W3 (⟨rfl, hJ3, hk3⟩ | ⟨rfl, hJx3, hk3⟩)
              · have HL3 := Aside0.mk (HL1.out.trans hk3)
                clear hk3 hyl hR
                gi_wp2
                go_roundw
                case rel => exact ⟨k + 1, by omega, by rw [HST.out]; rfl, hJ3, HL3⟩
                case measure => simp [intOf]; omega
              · clear hk3 hyl hR
                gi_wp2
                refine bodyPost_ret (results_none rfl _ _ _) rfl ?_
                exact ⟨⟨_, rfl⟩, .inr ⟨k + 1, by rw [List.length_map]; omega, hJx3⟩⟩
          · have y1 : decide ((i : Int) + 1 < (l0.length : Int)) = false := by simp; omega
            have q3 : ¬ ((i : Int) + 1 < (l0.length : Int)) := by omega
            clear hstop hBw
            gi_wp2_with fail
            refine wpIn_wide.2 ?_
            refine wp_region_still_tail 19 (by kernel_rfl) (by kernel_rfl) ?_
            simp only [List.take_succ_cons, List.take_zero, List.drop_succ_cons, List.drop_zero]
            iterate 19 still_step
            refine wpStill_nil ?_
            clear z1 z2 z3 z4 q1 q3
            have hL1 : ∀ O, Lv O wr wr.drew := fun O => Lv.drew O wr
            have hJ1 := hJe _ hL1
            have HL1 := Aside0.mk (HLi.out.trans (hL1 _))
            clear hL1 hlW hsW hJe HLi p0 y1
            obtain ⟨fn, tm, asg, bd, hyl, hR⟩ := yieldAt_of hY HPK.out _ hJ1
            unfold encPart at hyl
            dsimp only at hyl
            rw [show ((i + 1 : Nat) : Int) = (i : Int) + 1 from rfl] at hyl
            go_wp2_with fail
            gi_wp2_with fail
            refine hR.mono ?_
            rintro e W3 (⟨rfl, hJ3, hk3⟩ | ⟨rfl, hJx3, hk3⟩)
            · have HL3 := Aside0.mk (HL1.out.trans hk3)
              clear hk3 hyl hR
              gi_wp2
              go_roundw
              case rel => exact ⟨k + 1, by omega, by rw [HST.out]; rfl, hJ3, HL3⟩
              case measure => simp [intOf]; omega
            · clear hk3 hyl hR
              gi_wp2
              refine bodyPost_ret (results_none rfl _ _ _) rfl ?_
              exact ⟨⟨_, rfl⟩, .inr ⟨k + 1, by rw [List.length_map]; omega, hJx3⟩⟩
    · obtain rfl : k = ps.length := by omega
      have hfin := HX.out.fin
      rw [← HS.out] at hfin
      have y0 : decide ((s : Int) < (l0.length : Int)) = false := by simp; omega
      have y0' : decide (s < l0.length) = false := by simp; omega
      clear hfin
      gi_wp2
      go_end0
      exact ⟨⟨_, rfl⟩, .inl (by rw [List.length_map]; exact hJs)⟩
end
section
open Go.Proofs.Ytkcmehijmgjgfaa.It Go.Shelf
def softB (c : S25) : Bool := c.f4 || c.f5
theorem soft_calls (c : S25) (W : World) : Calls Try.prog 55 (#[encC c] ++ #[]) W fun e W' => e = .returned (.bool (softB c)) ∧ Below W.heap.size W W' := by
  change Calls Try.prog 55 #[encC c] W _
  obtain ⟨a0, a1, a2, a3, a4, a5⟩ := c
  unfold encC softB
  go_enter Try.func55, Try.ntmps55
  cases a4
  · go_wp2
    go_ret
    exact ⟨rfl, below_alloc (Below.refl _ W) _⟩
  · go_wp2
    go_ret
    exact ⟨rfl, below_alloc (Below.refl _ W) _⟩
theorem never_calls (c : S25) (W : World) : Calls Try.prog 56 (#[encC c] ++ #[]) W fun e W' => e = .returned (.bool false) ∧ Below W.heap.size W W' := by
  change Calls Try.prog 56 #[encC c] W _
  obtain ⟨a0, a1, a2, a3, a4, a5⟩ := c
  unfold encC
  go_enter Try.func56, Try.ntmps56
  go_wp2
  go_ret
  exact ⟨rfl, below_alloc (Below.refl _ W) _⟩
theorem parts_calls (A0 : Option Addr) (n0 c0 fid : Nat) (cap : Array Value) (w : World) :
    Calls Try.prog 54 #[.slice A0 n0 c0, .func (.func fid) #[] cap] w fun e w' =>
      e = .returned (.func (.func 89) #[] #[.pointer (some ⟨w.heap.size, 0, none⟩), .pointer (some ⟨w.heap.size + 1, 0, none⟩)]) ∧
      w' = (w.alloc (.cells #[.slice A0 n0 c0] 22)).alloc (.cells #[.func (.func fid) #[] cap] 94) := by
  go_enter Try.func54, Try.ntmps54
  go_wp2
  go_ret
  exact ⟨rfl, rfl⟩
set_option maxRecDepth 100000 in
set_option maxHeartbeats 2000000 in
theorem piece_calls (w0 W : World) (A0 : Option Addr) (c0 : Nat) (l0 : List S25) (hC0 : Kd.C k25 w0 A0 l0.length l0) (hc0 : l0.length ≤ c0) (hb : Below w0.heap.size w0 W) (bl : Nat) (hl : Boxed W bl 22 (.slice A0 l0.length c0))
    (x0 x1 : Nat) (h01 : x0 ≤ x1) (h1 : x1 ≤ l0.length) (r1 r2 : Int) (h : trim_Fits.f ((l0.take x1).drop x0) 0 = some (r1, r2)) (hlen : l0.length < 4611686018427387904) :
    Calls Try.prog 52 #[.agg #[.int .i64 (x0 : Int), .int .i64 (x1 : Int)], .pointer (some ⟨bl, 0, none⟩)] W fun e W' => e = .returned (.tuple #[.int .i64 r1, .int .i64 r2]) ∧ Below W.heap.size W W' := by
  have hlt := hl.lt
  have hc := (hl.alloc (.cells #[.int .i64 (x0 : Int), .int .i64 (x1 : Int)] 43)).cell
  obtain ⟨i0, hi0, _, hsz, _⟩ := info_parts info25
  have hcut := cut_mid (P := Try.prog) 22 25 .i64 .i64 Try.underlying22 hi0 6 hsz A0 l0.length c0 (x0 : Int) (x1 : Int) (by omega) (by omega) (by omega) hc0
  have hr := Kd.C_mid (lo := x0) (hi := x1) (c := c0) (Kd.C_below (Kd.C_below hC0 hb) (below_alloc (Below.refl W.heap.size W) (.cells #[.int .i64 (x0 : Int), .int .i64 (x1 : Int)] 43))) h01 h1 hc0
  rw [Int.toNat_natCast, Int.toNat_natCast] at hcut
  obtain ⟨A1, hA1⟩ : ∃ A1, A1 = (if c0 = x0 then A0 else (A0 : Option Addr).map (·.add (x0 * 6))) := ⟨_, rfl⟩
  obtain ⟨ys, hys⟩ : ∃ ys, ys = (l0.take x1).drop x0 := ⟨_, rfl⟩
  have hyl : ys.length = x1 - x0 := by rw [hys, List.length_drop, List.length_take]; omega
  rw [show k25.sz = 6 from rfl, ← hA1, ← hys] at hr
  rw [← hA1, ← hyl] at hcut
  rw [← hys] at h
  have hyc : ys.length ≤ c0 - x0 := by omega
  have HF := Aside0.mk h
  have HR := Aside0.mk hr
  have HYC := Aside0.mk hyc
  clear h hr hyc hys hA1 hyl hi0 hsz
  go_enter Try.func52, Try.ntmps52
  go_wp2_with fail
  refine (trim_Fits.calls A1 (c0 - x0) ys 0 r1 r2 _ HR.out HYC.out HF.out).mono ?_
  rintro e w1 ⟨rfl, hb1⟩
  have HB := Aside0.mk (show Below W.heap.size W w1 from below_step (below_alloc (Below.refl _ W) _) hb1)
  clear hb1 hcut hc
  go_wp2
  go_ret2
  exact ⟨rfl, HB.out⟩
end
section
open Go.Proofs.Ytkcmehijmgjgfaa.It Go.Shelf
attribute [local go_sem] Oper.semAt_some
def encPart' (p : Nat × Nat) : Array Value := #[.agg #[.int .i64 (p.1 : Int), .int .i64 (p.2 : Int)]]
def greatN (y : Int) (rs : List (Int × Int)) : Int := rs.foldl (fun a r => max a r.1) y
def greatO (y : Int) : List (Int × Int) → Int × Int
  | [] => (y, 0)
  | r :: rs => if r.2 = 0 then greatO (max y r.1) rs else r
theorem greatN_succ (y : Int) (rs : List (Int × Int)) (k : Nat) (h : k < rs.length) : greatN y (rs.take (k + 1)) = max (greatN y (rs.take k)) rs[k].1 := by
  unfold greatN
  rw [List.take_succ_eq_append_getElem h, List.foldl_append]; rfl
structure GreatI (w : World) (y0 : Int) (rs : List (Int × Int)) (fv : Value) (k : Nat) (W : World) : Prop where
  b4 : Boxed W w.heap.size 2 (.int .i64 (greatN y0 (rs.take k)))
  b5 : Boxed W (w.heap.size + 1) 95 fv
  b6 : Boxed W (w.heap.size + 1 + 1) 2 (.int .i64 0)
  b7 : Boxed W (w.heap.size + 1 + 1 + 1) 26 (.int .i64 0)
  z : greatO y0 rs = greatO (greatN y0 (rs.take k)) (rs.drop k)
  below : Below w.heap.size w W
structure GreatX (w : World) (y0 : Int) (rs : List (Int × Int)) (c : Code) (k : Nat) (W : World) : Prop where
  c : c = .ret
  b6 : Boxed W (w.heap.size + 1 + 1) 2 (.int .i64 (greatO y0 rs).1)
  b7 : Boxed W (w.heap.size + 1 + 1 + 1) 26 (.int .i64 (greatO y0 rs).2)
  below : Below w.heap.size w W
def greatT (w : World) (lb cap : Array Value) (fid : Nat) (y0 : Int) (p : Nat × Nat) (b : Nat) : Act :=
  { tmps := #[.func (.func 89) #[] lb, .int .i64 y0, .func (.func fid) #[] cap, undef, .pointer (some ⟨w.heap.size, 0, none⟩), .pointer (some ⟨w.heap.size + 1, 0, none⟩), .pointer (some ⟨w.heap.size + 1 + 1, 0, none⟩), .pointer (some ⟨w.heap.size + 1 + 1 + 1, 0, none⟩),
      .pointer (some ⟨b, 0, none⟩), undef, undef, .func (.func 89) #[] lb, .agg #[.int .i64 (p.1 : Int), .int .i64 (p.2 : Int)], undef, undef, undef, undef, undef, undef, undef, undef, undef, undef, undef, undef, undef, undef], defers := [] }
structure GreatA (w : World) (lb cap : Array Value) (fid : Nat) (y0 : Int) (ps : List (Nat × Nat)) (k : Nat) (a' : Act) (W : World) : Prop where
  ex : ∃ b p, ps[k]? = some p ∧ w.heap.size + 4 ≤ b ∧ b ≠ w.heap.size + 4 ∧ b ≠ w.heap.size + 4 + 1 ∧ W.heap[b]? = some (.cells #[.int .i64 (p.1 : Int), .int .i64 (p.2 : Int)] 43 (0, 0)) ∧ a' = greatT w lb cap fid y0 p b

set_option maxRecDepth 100000 in
set_option maxHeartbeats 4000000 in
theorem greatest_calls (w : World) (lb : Array Value) (fid : Nat) (cap : Array Value) (y0 : Int) (ps : List (Nat × Nat)) (rs : List (Int × Int)) (hlen : rs.length = ps.length)
    (eg : ∀ args w, (callFunc fid args).run Try.prog w = .ok (.enter fid args) w)
    (hseq : ∀ W Oc, Below w.heap.size w W → (∀ i, i < w.heap.size → ¬ Oc i) → Seq 3 Try.prog 89 lb (ps.map encPart') (fun _ => False) Oc W)
    (hm : ∀ k (h : k < ps.length) (h2 : k < rs.length) W, Below w.heap.size w W → Calls Try.prog fid (#[.agg #[.int .i64 ((ps[k]'h).1 : Int), .int .i64 ((ps[k]'h).2 : Int)]] ++ cap) W fun e W' => e = .returned (.tuple #[.int .i64 (rs[k]'h2).1, .int .i64 (rs[k]'h2).2]) ∧ Below W.heap.size W W') :
    Calls Try.prog 53 #[.func (.func 89) #[] lb, .int .i64 y0, .func (.func fid) #[] cap] w fun e w' => e = .returned (.tuple #[.int .i64 (greatO y0 rs).1, .int .i64 (greatO y0 rs).2]) ∧ Below w.heap.size w w' := by
  have HS := Aside0.mk hseq
  have HM := Aside0.mk hm
  have HLN := Aside0.mk hlen
  clear hseq hm hlen
  refine (callsIn_wide (n := 7)).1 (callsIn_of_wp_marks Try.func53 rfl trivial ?_ rfl)
  refine wpIn_wide.2 ?_
  simp only [Try.ntmps53, List.size_toArray, List.length_cons, List.length_nil, Nat.reduceAdd, Nat.reduceSub, Array.replicate_succ, Array.replicate_zero, List.push_toArray, List.append_toArray, List.nil_append, List.cons_append]
  go_wp2
  refine wp_name ?_
  intro W0 hW0
  have hsz : W0.heap.size = w.heap.size + 4 := by rw [hW0]; simp
  have b4 : Boxed W0 w.heap.size 2 (.int .i64 y0) := by rw [hW0]; exact (((boxed_at rfl).alloc _).alloc _).alloc _
  have b5 : Boxed W0 (w.heap.size + 1) 95 (.func (.func fid) #[] cap) := by rw [hW0]; refine Boxed.alloc (Boxed.alloc (boxed_at ?_) _) _; simp
  have b6 : Boxed W0 (w.heap.size + 1 + 1) 2 (.int .i64 0) := by rw [hW0]; exact (boxed_at (by simp)).alloc _
  have b7 : Boxed W0 (w.heap.size + 1 + 1 + 1) 26 (.int .i64 0) := by rw [hW0]; exact boxed_at (by simp)
  have hB0 : Below w.heap.size w W0 := by rw [hW0]; exact below_alloc (below_alloc (below_alloc (below_alloc (Below.refl _ _) _) _) _) _
  have hsz1 : W0.heap.size ≤ w.heap.size + 4 := by omega
  have hsz2 : w.heap.size + 4 ≤ W0.heap.size := by omega
  clear hW0 hsz
  apply wp_rangedX (m := 3) (gf := 89) (lb := lb) (by simp [go_sem]) (enters_of Try.func89 (by kernel_rfl) rfl)
    ps encPart' (fun _ _ => rfl) (fun _ => False) (fun i => i = w.heap.size ∨ i = w.heap.size + 1 + 1 ∨ i = w.heap.size + 1 + 1 + 1) ⟨by omega, by omega⟩ (fun _ h => h.elim)
    (HS.out W0 _ hB0 (by intro i hi; omega))
    (GreatI w y0 rs (.func (.func fid) #[] cap)) (GreatX w y0 rs) ?hI ?hIx ?h0 (GreatA w lb cap fid y0 ps) ?hAx ?assign ?body ?done ?stop
  case hI =>
    rintro k A B ⟨h4, h5, h6, h7, hz, hB⟩ hl
    exact ⟨boxed_lv hl h4 (by rintro (h | h | h) <;> omega), boxed_lv hl h5 (by rintro (h | h | h) <;> omega), boxed_lv hl h6 (by rintro (h | h | h) <;> omega), boxed_lv hl h7 (by rintro (h | h | h) <;> omega), hz, hB.trans (hl.below hB.size (fun i hi => by rintro (h | h | h) <;> omega))⟩
  case hIx =>
    rintro c k A B ⟨hc, h6, h7, hB⟩ hl
    exact ⟨hc, boxed_lv hl h6 (by rintro (h | h | h) <;> omega), boxed_lv hl h7 (by rintro (h | h | h) <;> omega), hB.trans (hl.below hB.size (fun i hi => by rintro (h | h | h) <;> omega))⟩
  case h0 => exact ⟨b4, b5, b6, b7, rfl, hB0⟩
  case hAx =>
    rintro k a' A B ⟨b, p, hp, h1, h2, h3, h4, h5⟩ hl
    exact ⟨b, p, hp, h1, h2, h3, hl.heap h4 (by omega), h5⟩
  case assign =>
    intro l k hk W K hWl hI hK
    have HK := Aside0.mk hK
    clear hK
    obtain ⟨p, hp⟩ : ∃ p, p = ps[k] := ⟨_, rfl⟩
    have HP := Aside0.mk hp
    rw [← hp]
    clear hp
    unfold encPart'
    gi_wp2
    obtain ⟨h4, h5, h6, h7, hz, hB⟩ := hI
    refine HK.out _ _ (Lv.alloc _ _ _) ⟨h4.alloc _, h5.alloc _, h6.alloc _, h7.alloc _, hz, below_alloc hB _⟩ ⟨W.heap.size, p, ?_, by omega, by omega, by omega, World.alloc_heap_new _ _, rfl⟩
    rw [HP.out]; exact List.getElem?_eq_getElem hk
  case body =>
    rintro l k hk a' W hD ⟨rL, hL⟩ ⟨h4, h5, h6, h7, hz, hB⟩ ⟨b, p, hp, hb1, hb2, hb3, hbx, rfl⟩
    have hk2 : k < rs.length := by rw [HLN.out]; exact hk
    have hB4 : w.heap.size + 4 ≤ W.heap.size := by
      have := (Array.getElem?_eq_some_iff.1 hD).1; omega
    have hp' : ps[k] = p := by rw [List.getElem?_eq_getElem hk] at hp; exact Option.some.inj hp
    have hM := HM.out k hk hk2
    rw [hp'] at hM
    obtain ⟨r, hr⟩ : ∃ r, r = rs[k] := ⟨_, rfl⟩
    rw [← hr] at hM
    have HR := Aside0.mk hr
    have HMM := Aside0.mk hM
    have HBB := Aside0.mk hB
    have HZ := Aside0.mk hz
    clear hp hp' hr hM hB hz hD hL
    obtain ⟨y, hy⟩ : ∃ y, y = greatN y0 (rs.take k) := ⟨_, rfl⟩
    rw [← hy] at h4
    have HY := Aside0.mk hy
    clear hy
    have g4 := h4.cell
    have g5 := h5.cell
    have g6 := h6.cell
    have g7 := h7.cell
    have f4 := h4.frozen
    have f6 := h6.frozen
    have f7 := h7.frozen
    have x0 := heap_cellAt (i := 0) hbx
    have x1 := heap_cellAt (i := 1) hbx
    simp at x0 x1
    unfold greatT
    gi_wp2_with fail
    refine ⟨trivial, (callsIn_wide.2 (HMM.out W HBB.out)).mono ?_⟩
    rintro e w1 ⟨rfl, hb1⟩
    obtain ⟨m, e⟩ := r
    replace h4 := boxed_lv (Lv.of_below (O := fun _ => False) hb1) h4 (fun h => h)
    replace h5 := boxed_lv (Lv.of_below (O := fun _ => False) hb1) h5 (fun h => h)
    replace h6 := boxed_lv (Lv.of_below (O := fun _ => False) hb1) h6 (fun h => h)
    replace h7 := boxed_lv (Lv.of_below (O := fun _ => False) hb1) h7 (fun h => h)
    have hB1 := below_step HBB.out hb1
    have hL1 := fun O => Lv.of_below (O := O) hb1
    have HB1 := Aside0.mk hB1
    have HL1 := Aside0.mk hL1
    clear g4 g5 g6 g7 f4 f6 f7 x0 x1 hbx hb1 hB1 hL1 HBB HMM
    have g4 := h4.cell
    have g6 := h6.cell
    have g7 := h7.cell
    have f4 := h4.frozen
    have f6 := h6.frozen
    have f7 := h7.frozen
    by_cases h0 : e = 0
    · have z : (e != 0) = false := by rw [bne_eq_false_iff_eq]; exact h0
      have H0 := Aside0.mk h0
      clear h0
      have hz' : greatO y0 rs = greatO (max y m) (rs.drop (k + 1)) := by
        rw [HZ.out, List.drop_eq_getElem_cons hk2, ← HR.out, ← HY.out, greatO, if_pos H0.out]
      have hn' : greatN y0 (rs.take (k + 1)) = max y m := by rw [greatN_succ _ _ _ hk2, ← HR.out, ← HY.out]
      have HZ' := Aside0.mk hz'
      have HN' := Aside0.mk hn'
      clear hz' hn'
      gi_wp2
      · have hmx : max y m = m := by omega
        refine ⟨(HL1.out _).trans (Lv.setCell _ (.inl rfl)), ?_, ?_, ?_, ?_, ?_, ?_⟩
        · rw [HN'.out, hmx]; exact h4.set _
        · exact h5.other (by omega) _
        · exact h6.other (by omega) _
        · exact h7.other (by omega) _
        · rw [HN'.out]; exact HZ'.out
        · exact HB1.out.setCell (p := ⟨w.heap.size, 0, none⟩) (Nat.le_refl _) _
      · have hmx : max y m = y := by omega
        refine ⟨(HL1.out _).trans (Lv.setCell _ (.inl rfl)), ?_, ?_, ?_, ?_, ?_, ?_⟩
        · rw [HN'.out, hmx]; exact h4.set _
        · exact h5.other (by omega) _
        · exact h6.other (by omega) _
        · exact h7.other (by omega) _
        · rw [HN'.out]; exact HZ'.out
        · exact HB1.out.setCell (p := ⟨w.heap.size, 0, none⟩) (Nat.le_refl _) _
    · have z : (e != 0) = true := by rw [bne_iff_ne]; exact h0
      have H0 := Aside0.mk h0
      clear h0
      have hz' : greatO y0 rs = (m, e) := by
        rw [HZ.out, List.drop_eq_getElem_cons hk2, ← HR.out, ← HY.out, greatO, if_neg H0.out]
      have HZ' := Aside0.mk hz'
      clear hz'
      gi_wp2
      refine ⟨((HL1.out _).trans (Lv.setCell _ (.inr (.inl rfl)))).trans (Lv.setCell _ (.inr (.inr rfl))), rfl, ?_, ?_, ?_⟩
      · rw [HZ'.out]; exact (h6.set _).other (by omega) _
      · rw [HZ'.out]; exact (h7.other (by omega) _).set _
      · exact (HB1.out.setCell (p := ⟨w.heap.size + 1 + 1, 0, none⟩) (by simp; omega) _).setCell (p := ⟨w.heap.size + 1 + 1 + 1, 0, none⟩) (by simp; omega) _
  case done =>
    rintro W ⟨h4, h5, h6, h7, hz, hB⟩ hD
    have hn : greatO y0 rs = (greatN y0 rs, 0) := by
      rw [hz, ← HLN.out, List.drop_length, List.take_length]; rfl
    have HN := Aside0.mk hn
    rw [← HLN.out, List.take_length] at h4
    clear hn hz
    have hDl : W0.heap.size < W.heap.size := (Array.getElem?_eq_some_iff.1 hD).1
    obtain ⟨y, hy⟩ : ∃ y, y = greatN y0 rs := ⟨_, rfl⟩
    rw [← hy] at h4
    have HY := Aside0.mk hy
    clear hy
    have g4 := h4.cell
    have g6 := h6.cell
    have g7 := h7.cell
    have f6 := h6.frozen
    have f7 := h7.frozen
    go_wp2
    have hL3 : Lv (fun i => i = w.heap.size + 1 + 1 ∨ i = w.heap.size + 1 + 1 + 1) W ((W.setCell ⟨w.heap.size + 1 + 1, 0, none⟩ (.int .i64 y)).setCell ⟨w.heap.size + 1 + 1 + 1, 0, none⟩ (.int .i64 0)) := (Lv.setCell _ (.inl rfl)).trans (Lv.setCell _ (.inr rfl))
    have hK3 := hL3.heap hD (by omega)
    refine ⟨by simp, .inl ⟨W0.heap.size, _, rfl, run_takeDeferred hK3, ?_⟩⟩
    have hL4 := Lv.putObj (O := fun i => i = W0.heap.size) (A := (W.setCell ⟨w.heap.size + 1 + 1, 0, none⟩ (.int .i64 y)).setCell ⟨w.heap.size + 1 + 1 + 1, 0, none⟩ (.int .i64 0)) (.deferred none) rfl
    have k6 := (boxed_lv hL4 ((h6.set (.int .i64 y)).other (B' := w.heap.size + 1 + 1 + 1) (by omega) (.int .i64 0)) (by omega)).cell
    have k7 := (boxed_lv hL4 ((h7.other (B' := w.heap.size + 1 + 1) (by omega) (.int .i64 y)).set (.int .i64 0)) (by omega)).cell
    refine ⟨.tuple #[.int .i64 y, .int .i64 0], by simp [results, Try.f53, go_sem, k6, k7], ?_, ?_⟩
    · rw [HN.out, ← HY.out]
    · exact hB.trans ((hL3.below (by omega) (fun i hi => by omega)).trans (hL4.below (by simp [World.setCell]; omega) (fun i hi => by omega)))
  case stop =>
    rintro c k W hk ⟨rfl, h6, h7, hB⟩ hD
    have hDl : W0.heap.size < W.heap.size := (Array.getElem?_eq_some_iff.1 hD).1
    go_wp2
    refine ⟨by simp, .inl ⟨W0.heap.size, _, rfl, run_takeDeferred hD, ?_⟩⟩
    have hL4 := Lv.putObj (O := fun i => i = W0.heap.size) (A := W) (.deferred none) rfl
    have k6 := (boxed_lv hL4 h6 (by omega)).cell
    have k7 := (boxed_lv hL4 h7 (by omega)).cell
    exact ⟨.tuple #[.int .i64 (greatO y0 rs).1, .int .i64 (greatO y0 rs).2], by simp [results, Try.f53, go_sem, k6, k7], rfl, hB.trans (hL4.below (by omega) (fun i hi => by omega))⟩
end
section
open Go.Proofs.Ytkcmehijmgjgfaa.It Go.Shelf
attribute [local go_sem] Oper.semAt_some
def partsGo (cut : S25 → Bool) : Nat → Nat → List S25 → List (Nat × Nat)
  | _, _, [] => []
  | s, i, [_] => [(s, i + 1)]
  | s, i, c :: d :: l => if c.f0 = 5 ∨ cut d = true then (s, i + 1) :: partsGo cut (i + 1) (i + 1) (d :: l) else partsGo cut s (i + 1) (d :: l)
def partsL (cut : S25 → Bool) (l : List S25) : List (Nat × Nat) := partsGo cut 0 0 l
inductive Parts (cut : S25 → Bool) (l : List S25) : Nat → List (Nat × Nat) → Prop
  | nil : Parts cut l l.length []
  | cons (s e : Nat) (ps : List (Nat × Nat)) : s < e → e ≤ l.length → (∀ j, s ≤ j → j + 1 < e → (l.getD j z25).f0 ≠ 5 ∧ cut (l.getD (j + 1) z25) = false) →
      (∀ j, e = j + 1 → j + 1 = l.length ∨ (l.getD j z25).f0 = 5 ∨ cut (l.getD (j + 1) z25) = true) → Parts cut l e ps → Parts cut l s ((s, e) :: ps)
theorem parts_go (cut : S25 → Bool) (l : List S25) : ∀ (m s i : Nat), l.length - i = m → s ≤ i → i < l.length → (∀ j, s ≤ j → j < i → (l.getD j z25).f0 ≠ 5 ∧ cut (l.getD (j + 1) z25) = false) →
    Parts cut l s (partsGo cut s i (l.drop i)) := by
  intro m
  induction m with
  | zero => intro s i h0 h1 h2; omega
  | succ m ih =>
    intro s i h0 h1 h2 h3
    have hc : l.getD i z25 = l[i] := by rw [List.getD_eq_getElem?_getD, List.getElem?_eq_getElem h2]; rfl
    rw [List.drop_eq_getElem_cons h2]
    by_cases hl : i + 1 < l.length
    · have hd : l.getD (i + 1) z25 = l[i + 1] := by rw [List.getD_eq_getElem?_getD, List.getElem?_eq_getElem hl]; rfl
      rw [List.drop_eq_getElem_cons hl, partsGo]
      rw [← List.drop_eq_getElem_cons hl, ← hc, ← hd]
      by_cases hs : (l.getD i z25).f0 = 5 ∨ cut (l.getD (i + 1) z25) = true
      · rw [if_pos hs]
        refine .cons s (i + 1) _ (by omega) (by omega) (fun j h4 h5 => h3 j h4 (by omega)) ?_ (ih (i + 1) (i + 1) (by omega) (by omega) hl (fun j h4 h5 => by omega))
        intro j hj
        obtain rfl : j = i := by omega
        exact .inr hs
      · rw [if_neg hs]
        rw [not_or] at hs
        refine ih s (i + 1) (by omega) (by omega) hl ?_
        intro j h4 h5
        by_cases e : j = i
        · subst e
          exact ⟨hs.1, by simpa using hs.2⟩
        · exact h3 j h4 (by omega)
    · have : l.drop (i + 1) = [] := List.drop_eq_nil_of_le (by omega)
      rw [this, partsGo]
      have e : i + 1 = l.length := by omega
      refine .cons s (i + 1) _ (by omega) (by omega) (fun j h4 h5 => h3 j h4 (by omega)) (fun j hj => .inl (by omega)) ?_
      rw [e]
      exact .nil
def stG (s : Nat) (ps : List (Nat × Nat)) (k : Nat) : Nat := if k = 0 then s else (ps.getD (k - 1) (0, 0)).2
theorem parts_chain {cut : S25 → Bool} {l : List S25} {s : Nat} {ps : List (Nat × Nat)} (h : Parts cut l s ps) : (∀ k (h : k < ps.length), (ps[k]'h).1 = stG s ps k) ∧ stG s ps ps.length = l.length := by
  induction h with
  | nil => exact ⟨fun k h => absurd h (by simp), by simp [stG]⟩
  | cons s e ps h1 h2 h3 h4 h5 ih =>
    have hs : ∀ k, k ≤ ps.length → stG s ((s, e) :: ps) (k + 1) = stG e ps k := by
      intro k _
      unfold stG
      rw [if_neg (by omega), Nat.add_sub_cancel]
      cases k with
      | zero => simp
      | succ k => simp
    refine ⟨fun k hk => ?_, ?_⟩
    · cases k with
      | zero => simp [stG]
      | succ k =>
        have : k < ps.length := by simpa using hk
        rw [hs k (by omega)]
        simpa using ih.1 k this
    · rw [List.length_cons, hs _ (Nat.le_refl _)]; exact ih.2
theorem parts_all {cut : S25 → Bool} {l : List S25} {s : Nat} {ps : List (Nat × Nat)} (h : Parts cut l s ps) : ∀ p ∈ ps, p.1 < p.2 ∧ p.2 ≤ l.length ∧ (∀ j, p.1 ≤ j → j + 1 < p.2 → (l.getD j z25).f0 ≠ 5 ∧ cut (l.getD (j + 1) z25) = false) ∧
    (∀ j, p.2 = j + 1 → j + 1 = l.length ∨ (l.getD j z25).f0 = 5 ∨ cut (l.getD (j + 1) z25) = true) := by
  induction h with
  | nil => intro p hp; exact absurd hp (by simp)
  | cons s e ps h1 h2 h3 h4 h5 ih =>
    intro p hp
    rcases List.mem_cons.1 hp with rfl | hp
    · exact ⟨h1, h2, h3, h4⟩
    · exact ih p hp
theorem partsL_S (cut : S25 → Bool) (l : List S25) : PartS cut l (partsL cut l) := by
  have h : Parts cut l 0 (partsL cut l) := by
    by_cases h0 : 0 < l.length
    · exact parts_go cut l l.length 0 0 (by omega) (by omega) h0 (fun j h1 h2 => by omega)
    · obtain rfl : l = [] := List.eq_nil_of_length_eq_zero (by omega)
      exact .nil
  have hc := parts_chain h
  have ha := parts_all h
  exact ⟨hc.1, fun k hk => ⟨(ha _ (List.getElem_mem hk)).1, (ha _ (List.getElem_mem hk)).2.1⟩, fun k hk => (ha _ (List.getElem_mem hk)).2.2.1, fun k hk => (ha _ (List.getElem_mem hk)).2.2.2, hc.2⟩

def fitsO (l : List S25) : List (Nat × Nat) → Option (List (Int × Int))
  | [] => some []
  | p :: ps => (trim_Fits.f ((l.take p.2).drop p.1) 0).bind fun r => (fitsO l ps).map (r :: ·)
theorem fitsO_at {l : List S25} : ∀ {ps : List (Nat × Nat)} {rs : List (Int × Int)}, fitsO l ps = some rs → rs.length = ps.length ∧ ∀ k (h : k < ps.length) (h2 : k < rs.length), trim_Fits.f ((l.take (ps[k]'h).2).drop (ps[k]'h).1) 0 = some (rs[k]'h2)
  | [], rs, h => by rw [fitsO] at h; cases h; exact ⟨rfl, fun k h => absurd h (by simp)⟩
  | p :: ps, rs, h => by
    rw [fitsO] at h
    obtain ⟨r, h1, h2⟩ := Option.bind_eq_some_iff.1 h
    obtain ⟨rest, h3, rfl⟩ := Option.map_eq_some_iff.1 h2
    obtain ⟨h4, h5⟩ := fitsO_at h3
    refine ⟨by simp [h4], fun k hk hk2 => ?_⟩
    cases k with
    | zero => simpa using h1
    | succ k => simpa using h5 k (by simpa using hk) (by simpa using hk2)
def intrinsic_MinMax.f (l : List S25) : Option (Int × Int × Int) :=
  if l.length < 4398046511104 then
    (fitsO l (partsL softB l)).bind fun r => if (greatO 0 r).2 = 0 then (fitsO l (partsL (fun _ => false) l)).bind fun q => if (greatO (greatO 0 r).1 q).2 = 0 then some ((greatO 0 r).1, (greatO (greatO 0 r).1 q).1, 0) else some (0, 0, (greatO (greatO 0 r).1 q).2) else some (0, 0, (greatO 0 r).2)
  else none
/-- Both calls of a pass: the parts, and the greatest of them. -/
theorem pass_calls (w W : World) (A0 : Option Addr) (c0 : Nat) (l0 : List S25) (hC0 : Kd.C k25 w A0 l0.length l0) (hc0 : l0.length ≤ c0) (hb : Below w.heap.size w W) (hbl : Boxed W w.heap.size 22 (.slice A0 l0.length c0)) (hlen : l0.length < 4398046511104)
    (fid : Nat) (cut : S25 → Bool) (eg : ∀ args w, (callFunc fid args).run Try.prog w = .ok (.enter fid args) w)
    (hp : ∀ c W, Calls Try.prog fid (#[encC c] ++ #[]) W fun e W' => e = .returned (.bool (cut c)) ∧ Below W.heap.size W W') (y0 : Int) (rs : List (Int × Int)) (hrs : fitsO l0 (partsL cut l0) = some rs) :
    Calls Try.prog 53 #[.func (.func 89) #[] #[.pointer (some ⟨W.heap.size, 0, none⟩), .pointer (some ⟨W.heap.size + 1, 0, none⟩)], .int .i64 y0, .func (.func 52) #[] #[.pointer (some ⟨w.heap.size, 0, none⟩)]]
      ((W.alloc (.cells #[.slice A0 l0.length c0] 22)).alloc (.cells #[.func (.func fid) #[] #[]] 94)) fun e w' => e = .returned (.tuple #[.int .i64 (greatO y0 rs).1, .int .i64 (greatO y0 rs).2]) ∧ Below w.heap.size w w' ∧ Boxed w' w.heap.size 22 (.slice A0 l0.length c0) := by
  obtain ⟨hl, hat⟩ := fitsO_at hrs
  obtain ⟨W2, hW2⟩ : ∃ W2, W2 = (W.alloc (.cells #[.slice A0 l0.length c0] 22)).alloc (.cells #[.func (.func fid) #[] #[]] 94) := ⟨_, rfl⟩
  have b0 : Boxed W2 w.heap.size 22 (.slice A0 l0.length c0) := by rw [hW2]; exact (hbl.alloc _).alloc _
  have b1 : Boxed W2 W.heap.size 22 (.slice A0 l0.length c0) := by rw [hW2]; exact (boxed_at rfl).alloc _
  have b2 : Boxed W2 (W.heap.size + 1) 94 (.func (.func fid) #[] #[]) := by rw [hW2]; exact boxed_at (by simp)
  have hsz : W2.heap.size = W.heap.size + 2 := by rw [hW2]; simp
  have hB : Below w.heap.size w W2 := by rw [hW2]; exact below_alloc (below_alloc hb _) _
  have hbs := hb.size
  rw [← hW2]
  have hS := partsL_S cut l0
  have hk : ∀ W', Below W2.heap.size W2 W' → Below w.heap.size w W' := fun W' h => below_step hB h
  refine (greatest_calls W2 _ 52 _ y0 (partsL cut l0) rs hl (enters_of Try.func52 (by kernel_rfl) rfl) ?_ ?_).mono ?_
  · intro W' Oc h hO
    have q := fun {b t v} (hx : Boxed W2 b t v) => boxed_lv (Lv.of_below (O := fun _ => False) h) hx (fun h => h)
    exact parts_seq 2 w W' (hk W' h) A0 c0 l0 fid #[] hC0 W.heap.size (W.heap.size + 1) (q b1) (q b2) Oc (hO _ (by omega)) (hO _ (by omega)) (fun i hi => hO i (by omega)) cut eg hp _ hS (by omega)
  · intro k h h2 W' hbW
    have q := boxed_lv (Lv.of_below (O := fun _ => False) hbW) b0 (fun h => h)
    have hlt := hS.lt k h
    exact piece_calls w W' A0 c0 l0 hC0 hc0 (hk W' hbW) w.heap.size q _ _ (by omega) hlt.2 _ _ (hat k h h2) (by omega)
  · rintro e w' ⟨rfl, h⟩
    exact ⟨rfl, hk w' h, boxed_lv (Lv.of_below (O := fun _ => False) h) b0 (fun h => h)⟩
end
section
open Go.Proofs.Ytkcmehijmgjgfaa.It Go.Shelf
set_option maxRecDepth 100000 in
set_option maxHeartbeats 2000000 in
theorem intrinsic_MinMax.calls (A0 : Option Addr) (c0 : Nat) (l0 : List S25) (r1 r2 r3 : Int) (w : World) (hr0 : Kd.C k25 w A0 l0.length l0) (hc0 : l0.length ≤ c0) (h : intrinsic_MinMax.f l0 = some (r1, r2, r3)) :
    Calls Try.prog 23 #[.slice A0 l0.length c0] w fun e w' => e = .returned (.tuple #[.int .i64 r1, .int .i64 r2, .int .i64 r3]) ∧ Below w.heap.size w w' := by
  unfold intrinsic_MinMax.f at h
  by_cases hlen : l0.length < 4398046511104
  case neg => rw [if_neg hlen] at h; cases h
  rw [if_pos hlen] at h
  obtain ⟨rs, h1, h2⟩ := Option.bind_eq_some_iff.1 h
  obtain ⟨W1, hW1⟩ : ∃ W1, W1 = w.alloc (.cells #[.slice A0 l0.length c0] 22) := ⟨_, rfl⟩
  have hb1 : Boxed W1 w.heap.size 22 (.slice A0 l0.length c0) := by rw [hW1]; exact boxed_at rfl
  have hB1 : Below w.heap.size w W1 := by rw [hW1]; exact below_alloc (Below.refl _ _) _
  have hP1 := pass_calls w W1 A0 c0 l0 hr0 hc0 hB1 hb1 hlen 55 softB (enters_of Try.func55 (by kernel_rfl) rfl) soft_calls 0 rs h1
  rw [show W1.heap.size = w.heap.size + 1 by rw [hW1]; simp] at hP1
  have P1 := Aside0.mk hP1
  have P2 := Aside0.mk (fun (W : World) (hB : Below w.heap.size w W) (hbx : Boxed W w.heap.size 22 (.slice A0 l0.length c0)) (y0 : Int) (q : List (Int × Int)) (hq : fitsO l0 (partsL (fun _ => false) l0) = some q) =>
    pass_calls w W A0 c0 l0 hr0 hc0 hB hbx hlen 56 (fun _ => false) (enters_of Try.func56 (by kernel_rfl) rfl) never_calls y0 q hq)
  obtain ⟨p, hp⟩ : ∃ p, p = greatO 0 rs := ⟨_, rfl⟩
  rw [← hp] at h2 P1
  have H2 := Aside0.mk h2
  have HB1 := Aside0.mk hB1
  have HX1 := Aside0.mk hb1
  have HW1 := Aside0.mk hW1
  have bc := hb1.cell
  rw [hW1] at bc
  clear hP1 h h1 h2 hr0 hb1 hB1 hp hW1
  go_enter Try.func23, Try.ntmps23
  go_wp2_with fail
  refine (parts_calls A0 l0.length c0 55 #[] _).mono ?_
  rintro e w1 ⟨rfl, hw1⟩
  rw [← HW1.out] at hw1
  subst hw1
  go_wp2_with fail
  refine P1.out.mono ?_
  rintro e w2 ⟨rfl, hb2, hx2⟩
  obtain ⟨m, e⟩ := p
  have bc2 := hx2.cell
  have HB2 := Aside0.mk hb2
  have HX2 := Aside0.mk hx2
  clear bc hb2 hx2 P1
  by_cases h0 : e = 0
  · have z : (e != 0) = false := by rw [bne_eq_false_iff_eq]; exact h0
    have h2 := H2.out
    rw [if_pos h0] at h2
    obtain ⟨q, h1, h2⟩ := Option.bind_eq_some_iff.1 h2
    have P3 := Aside0.mk (fun (W : World) (hB : Below w.heap.size w W) (hbx : Boxed W w.heap.size 22 (.slice A0 l0.length c0)) (y0 : Int) => P2.out W hB hbx y0 q h1)
    obtain ⟨x, hx⟩ : ∃ x, x = greatO m q := ⟨_, rfl⟩
    have P4 := Aside0.mk (P3.out w2 HB2.out HX2.out m)
    dsimp only at h2
    rw [← hx] at h2 P4
    have H3 := Aside0.mk h2
    clear P2 P3 h0 h1 h2 hx
    go_wp2_with fail
    refine (parts_calls A0 l0.length c0 56 #[] _).mono ?_
    rintro e w3 ⟨rfl, hw3⟩
    subst hw3
    go_wp2_with fail
    refine P4.out.mono ?_
    rintro e4 w4 ⟨rfl, hb4, -⟩
    obtain ⟨n, f⟩ := x
    have HB4 := Aside0.mk hb4
    clear hb4 P4
    by_cases h0 : f = 0
    · have z2 : (f != 0) = false := by rw [bne_eq_false_iff_eq]; exact h0
      have h2 := H3.out
      rw [if_pos h0] at h2
      have HR := Aside0.mk (Option.some.inj h2)
      clear h0 h2
      go_wp2
      go_ret3
      exact ⟨by obtain ⟨rfl, hr⟩ := Prod.mk.inj HR.out; obtain ⟨rfl, rfl⟩ := Prod.mk.inj hr; rfl, HB4.out⟩
    · have z2 : (f != 0) = true := by rw [bne_iff_ne]; exact h0
      have h2 := H3.out
      rw [if_neg h0] at h2
      have HR := Aside0.mk (Option.some.inj h2)
      clear h0 h2
      go_wp2
      go_ret3
      exact ⟨by obtain ⟨rfl, hr⟩ := Prod.mk.inj HR.out; obtain ⟨rfl, rfl⟩ := Prod.mk.inj hr; rfl, HB4.out⟩
  · have z : (e != 0) = true := by rw [bne_iff_ne]; exact h0
    have h2 := H2.out
    rw [if_neg h0] at h2
    have HR := Aside0.mk (Option.some.inj h2)
    clear h0 h2 P2
    go_wp2
    go_ret3
    exact ⟨by obtain ⟨rfl, hr⟩ := Prod.mk.inj HR.out; obtain ⟨rfl, rfl⟩ := Prod.mk.inj hr; rfl, HB2.out⟩
end

/-! ### stickfulref21_Same: function 26 -/
section
open Go.Proofs.Ytkcmehijmgjgfaa.It Go.Shelf
theorem infoA3 : (Try.prog.info? 3).map (fun i => (i.zero, i.size, i.bytes)) = some (some (.int .i64 0), 1, 8) := by kernel_rfl
theorem cells3 : Try.prog.cellsOf 3 = 1 := by kernel_rfl
theorem eq3 (w : World) (a b : Int) : (Op.equalIn 9999 3 (.int .i64 a) (.int .i64 b)).run Try.prog w = .ok (a == b) w := run_equalIn_int w 9998 3 .i64 .i64 a b Try.underlying3
theorem equal43 (w : World) (a0 a1 b0 b1 : Int) : (Op.equalIn 10000 43 (.agg #[.int .i64 a0, .int .i64 a1]) (.agg #[.int .i64 b0, .int .i64 b1])).run Try.prog w = .ok (a0 == b0 && a1 == b1) w := by
  obtain ⟨i0, hi, hz0, hz1, hz2⟩ := info_parts infoA3
  rw [show (10000 : Nat) = 9999 + 1 from rfl, run_equalIn_array w 9999 _ _ Try.underlying43 hi, cells3, show List.range 2 = [0, 1] from rfl]
  by_cases h0 : a0 = b0 <;> by_cases h1 : a1 = b1 <;> simp [Op.eqItems, go_sem, eq3, h0, h1]
theorem guard43 : Try.prog.eqGuardType Try.prog.depth 43 = false := by kernel_rfl
attribute [local go_sem] equal43 guard43
def sameB : List S43 → List S43 → Bool
  | [], [] => true
  | a :: l, b :: m => a.f0 == b.f0 && a.f1 == b.f1 && sameB l m
  | _, _ => false
theorem sameB_len : ∀ (l m : List S43), l.length ≠ m.length → sameB l m = false
  | [], [], h => absurd rfl h
  | [], _ :: _, _ => rfl
  | _ :: _, [], _ => rfl
  | a :: l, b :: m, h => by
    rw [sameB, sameB_len l m (by simpa using h), Bool.and_false]
theorem sameB_drop (l m : List S43) (hlm : l.length = m.length) (i : Nat) (h : i < l.length) : sameB (l.drop i) (m.drop i) = ((rd_T43 l i).f0 == (rd_T43 m i).f0 && (rd_T43 l i).f1 == (rd_T43 m i).f1 && sameB (l.drop (i + 1)) (m.drop (i + 1))) := by
  rw [List.drop_eq_getElem_cons h, List.drop_eq_getElem_cons (show i < m.length by omega), sameB]
  have e1 : rd_T43 l i = l[i] := by unfold rd_T43; rw [Int.toNat_natCast, List.getD_eq_getElem?_getD, List.getElem?_eq_getElem h]; rfl
  have e2 : rd_T43 m i = m[i]'(by omega) := by unfold rd_T43; rw [Int.toNat_natCast, List.getD_eq_getElem?_getD, List.getElem?_eq_getElem (show i < m.length by omega)]; rfl
  rw [e1, e2]
def stickfulref21_Same.f (l m : List S43) : Option Bool := if l.length < 4398046511104 then some (sameB l m) else none
set_option maxRecDepth 100000 in
set_option maxHeartbeats 2000000 in
theorem stickfulref21_Same.calls (A0 : Option Addr) (c0 : Nat) (l0 : List S43) (A1 : Option Addr) (c1 : Nat) (l1 : List S43) (r : Bool) (w : World) (hr0 : Kd.C k43 w A0 l0.length l0) (hc0 : l0.length ≤ c0) (hr1 : Kd.C k43 w A1 l1.length l1) (hc1 : l1.length ≤ c1) (h : stickfulref21_Same.f l0 l1 = some r) :
    Calls Try.prog 26 #[.slice A0 l0.length c0, .slice A1 l1.length c1] w fun e w' => e = .returned (.bool r) ∧ Below w.heap.size w w' := by
  unfold stickfulref21_Same.f at h
  by_cases hlen : l0.length < 4398046511104
  case neg => rw [if_neg hlen] at h; cases h
  rw [if_pos hlen] at h
  have HR := Aside0.mk (Option.some.inj h)
  have H0 := Aside0.mk hr0
  have H1 := Aside0.mk hr1
  clear h hr0 hr1
  by_cases hne : l0.length = l1.length
  case neg =>
    have z : ((l0.length : Int) != (l1.length : Int)) = true := by rw [bne_iff_ne]; omega
    have hf := sameB_len l0 l1 hne
    have HF := Aside0.mk hf
    clear hf hne
    go_enter Try.func26, Try.ntmps26
    go_wp2
    go_ret
    exact ⟨by rw [← HR.out, HF.out]; rfl, Below.refl _ _⟩
  have HN := Aside0.mk hne
  have z : ((l0.length : Int) != (l1.length : Int)) = false := by rw [bne_eq_false_iff_eq]; omega
  clear hne
  go_enter Try.func26, Try.ntmps26
  go_wp2
  go_loopw [5] (fun i wr => ∃ (k : Nat), k ≤ l0.length ∧ i = .int .i64 k ∧ Aside0 (sameB (l0.drop k) (l1.drop k) = r) ∧ Aside0 (Below w.heap.size w wr))
    (fun i _ => l0.length - (intOf i).toNat)
  case atStart => exact ⟨0, by omega, rfl, ⟨HR.out⟩, ⟨Below.refl _ _⟩⟩
  case round =>
    obtain ⟨k, hk, rfl, HS, HB⟩ := hrel
    clear z
    by_cases hlt : k < l0.length
    · obtain ⟨ad, e, d0, d1⟩ := at_T43 (Kd.C_below H0.out HB.out) (k : Int) (by omega) (by omega)
      cases e
      obtain ⟨ad', e, d0', d1'⟩ := at_T43 (Kd.C_below H1.out HB.out) (k : Int) (by omega) (by have := HN.out; omega)
      cases e
      have hlt' : k < l1.length := by have := HN.out; omega
      have hst := sameB_drop l0 l1 HN.out k hlt
      rw [HS.out] at hst
      obtain ⟨a, ha⟩ : ∃ a, a = rd_T43 l0 (k : Int) := ⟨_, rfl⟩
      obtain ⟨b, hb⟩ : ∃ b, b = rd_T43 l1 (k : Int) := ⟨_, rfl⟩
      rw [← ha, Int.toNat_natCast] at d0 d1
      rw [← hb, Int.toNat_natCast] at d0' d1'
      rw [← ha, ← hb] at hst
      clear ha hb HS
      obtain ⟨a0, a1⟩ := a
      obtain ⟨b0, b1⟩ := b
      have HST := Aside0.mk hst
      clear hst
      have y1 : decide ((k : Int) < (l0.length : Int)) = true := by simp; exact hlt
      by_cases e0 : a0 = b0 ∧ a1 = b1
      · obtain ⟨rfl, rfl⟩ := e0
        have y2 : (!(a0 == a0 && a1 == a1)) = false := by simp
        go_wp2
        refine wp_region_quiet_lit (by kernel_rfl) (by kernel_rfl) ?_
        iterate 8 (quiet_step (fail))
        quiet_step (fail)
        refine wpQuiet_nil ?_
        intro _ hw'
        obtain ⟨nq, hw''⟩ := hw'
        subst hw''
        go_wp2
        refine ⟨⟨k + 1, by omega, by go_num, ⟨?_⟩, ⟨pw_below_drewN HB.out _⟩⟩, ?_⟩
        · rw [HST.out]; simp
        · simp [intOf]; omega
      · have y2 : (!(a0 == b0 && a1 == b1)) = true := by simp; omega
        go_wp2
        refine wp_region_quiet_lit (by kernel_rfl) (by kernel_rfl) ?_
        iterate 8 (quiet_step (fail))
        quiet_step (fail)
        refine wpQuiet_nil ?_
        intro _ hw'
        obtain ⟨nq, hw''⟩ := hw'
        subst hw''
        go_wp2
        go_ret
        have hr : r = false := by
          rw [HST.out]
          have : (a0 == b0 && a1 == b1) = false := by rwa [Bool.not_eq_true'] at y2
          rw [this, Bool.false_and]
        exact ⟨by rw [hr]; rfl, pw_below_drewN HB.out _⟩
    · obtain rfl : k = l0.length := by omega
      have y1 : decide ((l0.length : Int) < (l0.length : Int)) = false := by simp
      have hr := HS.out
      rw [HN.out, List.drop_length, ← HN.out, List.drop_length] at hr
      have HR' := Aside0.mk hr
      clear hr
      go_wp2
      go_ret
      exact ⟨by rw [← HR'.out]; rfl, HB.out⟩
end

-- NOT PRINTED: function 90 (slices_AppendSeq_2_int_2_int)

-- NOT PRINTED: function 58 (slices_Collect_2_int)

end Go.Proofs.Ytkcmehijmgjgfaa.MIntrinsicCuts
