-- Written by a program of this session for this claim.
import Derived.Test.YtkcmehijmgjgfaaMTrimBoundsx0
import Derived.Test.YtkcmehijmgjgfaaMTrimBoundsx1
import Derived.Test.YtkcmehijmgjgfaaMTrimBoundsx2
namespace Go.Proofs.Ytkcmehijmgjgfaa.MTrimBounds
open Go.RowKit Go.Proofs.YtkcmehijmgjgfaaW.PrintWords Go.Proofs.YtkcmehijmgjgfaaW.PrintLast Go.Proofs.YtkcmehijmgjgfaaW.PrintMore
attribute [local go_sem] max2_int min2_int max_two min_two max_three min_three max_four min_four   -- for this text's walks alone
set_option linter.unusedVariables false
set_option linter.unusedSimpArgs false

/-! ### tabs_Pens: function 50 -/
-- needs func tabs.Step tabs.role
section
open Go.Proofs.Ytkcmehijmgjgfaa.It Go.Shelf
attribute [local go_sem] Oper.semAt_some
def penStep (roles : List Int) (i : Nat) (c : S25) (x : Int) : Option (Int × Int) :=
  (tabs_role.f roles i).bind fun r => if r = 1 then some (x, 0) else tabs_Step.f 1 c.f0 c.f1 c.f2 c.f3 c.f4 c.f5 x
def pensO (roles : List Int) : Nat → Int → List S25 → Option (List (Int × Int))
  | _, _, [] => some []
  | i, x, c :: l => (penStep roles i c x).bind fun p => if p.2 = 0 then (pensO roles (i + 1) p.1 l).map (p :: ·) else some [p]
def encPen (p : Int × Int) : Array Value := #[.int .i64 p.1, .int .i64 p.2]

theorem pensO_step {roles : List Int} {k : Nat} {y : Int} {c : S25} {l : List S25} {ps : List (Int × Int)} (h : pensO roles k y (c :: l) = some ps) :
    ∃ (r : Int) (p : Int × Int), tabs_role.f roles k = some r ∧ ((r = 1 ∧ p = (y, 0)) ∨ (r ≠ 1 ∧ tabs_Step.f 1 c.f0 c.f1 c.f2 c.f3 c.f4 c.f5 y = some p)) ∧
      ((p.2 = 0 ∧ ∃ rest, pensO roles (k + 1) p.1 l = some rest ∧ ps = p :: rest) ∨ (p.2 ≠ 0 ∧ ps = [p])) := by
  rw [pensO] at h
  obtain ⟨p, h1, h2⟩ := Option.bind_eq_some_iff.1 h
  unfold penStep at h1
  obtain ⟨r, h3, h4⟩ := Option.bind_eq_some_iff.1 h1
  refine ⟨r, p, h3, ?_, ?_⟩
  · by_cases e : r = 1
    · rw [if_pos e] at h4; exact .inl ⟨e, (Option.some.inj h4).symm⟩
    · rw [if_neg e] at h4; exact .inr ⟨e, h4⟩
  · by_cases e : p.2 = 0
    · rw [if_pos e] at h2
      obtain ⟨rest, h5, h6⟩ := Option.map_eq_some_iff.1 h2
      exact .inl ⟨e, rest, h5, h6.symm⟩
    · rw [if_neg e] at h2; exact .inr ⟨e, (Option.some.inj h2).symm⟩
set_option maxRecDepth 100000 in
set_option maxHeartbeats 2000000 in
theorem pens_seq (m : Nat) (w0 w : World) (hb : Below w0.heap.size w0 w) (A0 A1 : Option Addr) (c0 c1 : Nat) (l0 : List S25) (l1 : List Int) (x : Int)
    (hC0 : Kd.C k25 w0 A0 l0.length l0) (hC1 : Kd.C (Kd.int .u8) w0 A1 l1.length l1) (hc1 : l1.length ≤ c1) (bx bl br : Nat)
    (hx : w.heap[bx]? = some (.cells #[.int .i64 x] 2 (0, 0))) (hl : w.heap[bl]? = some (.cells #[.slice A0 l0.length c0] 22 (0, 0))) (hr : w.heap[br]? = some (.cells #[.slice A1 l1.length c1] 88 (0, 0)))
    (Oc : Nat → Prop) (hOx : ¬ Oc bx) (hOl : ¬ Oc bl) (hOr : ¬ Oc br) (hO : ∀ i, i < w0.heap.size → ¬ Oc i) (ps : List (Int × Int)) (hps : pensO l1 0 x l0 = some ps) (hlen : l0.length < 4611686018427387904) :
    Seq (m + 1) Try.prog 108 #[.pointer (some ⟨bx, 0, none⟩), .pointer (some ⟨bl, 0, none⟩), .pointer (some ⟨br, 0, none⟩)] (ps.map encPen) (fun _ => False) Oc w := by
  intro l J Jx W hW hJ hJx hY h0
  have HPS := Aside0.mk hps
  have HC0 := Aside0.mk hC0
  have HC1 := Aside0.mk hC1
  clear hps hC0 hC1
  have hxW := Boxed.cell (hW.heap hx hOx)
  have hlW := Boxed.cell (hW.heap hl hOl)
  refine callsIn_of_wp Try.func108 rfl trivial ?_ rfl
  simp only [Try.ntmps108, List.size_toArray, List.length_cons, List.length_nil, Nat.reduceAdd, Nat.reduceSub, Array.replicate_succ, Array.replicate_zero, List.push_toArray, List.append_toArray, List.nil_append, List.cons_append]
  gi_wp2
  gi_loopw [5, 6, 12] (fun a e i wr => ∃ (k : Nat) (y : Int), k ≤ l0.length ∧ i = .int .i64 k ∧ a = .int .i64 y ∧ e = .int .i64 0 ∧ J k wr ∧ Aside0 (Lv Oc W wr) ∧ Aside0 (k ≤ ps.length ∧ pensO l1 k y (l0.drop k) = some (ps.drop k)))
    (fun _ _ i _ => l0.length - (intOf i).toNat)
  case atStart => exact ⟨0, x, by omega, rfl, rfl, rfl, h0, ⟨Lv.refl _ _⟩, ⟨Nat.zero_le _, HPS.out⟩⟩
  case round =>
    obtain ⟨k, y, hk, rfl, rfl, rfl, hJs, HLV, HK⟩ := hrel
    clear hxW hlW
    by_cases hlt : k < l0.length
    · have hBw : Below w0.heap.size w0 wr := hb.trans ((hW.trans HLV.out).below hb.size hO)
      obtain ⟨ad, e, d0, d1, d2, d3, d4, d5⟩ := at_T25 HC0.out (k : Int) (by omega) (by omega)
      cases e
      have ec : rd_T25 l0 (k : Int) = l0[k] := by unfold rd_T25; rw [Int.toNat_natCast, List.getD_eq_getElem?_getD, List.getElem?_eq_getElem hlt]; rfl
      rw [ec] at d0 d1 d2 d3 d4 d5
      obtain ⟨c, hc⟩ : ∃ c, c = l0[k] := ⟨_, rfl⟩
      rw [← hc] at d0 d1 d2 d3 d4 d5
      have HCk := Aside0.mk hc
      clear hc ec
      rw [Int.toNat_natCast] at d0 d1 d2 d3 d4 d5
      replace d0 := pw_cell_below hBw d0
      replace d1 := pw_cell_below hBw d1
      replace d2 := pw_cell_below hBw d2
      replace d3 := pw_cell_below hBw d3
      replace d4 := pw_cell_below hBw d4
      replace d5 := pw_cell_below hBw d5
      have hrB := (hW.trans HLV.out).heap hr hOr
      have hrW := Boxed.cell hrB
      have hrL : br < wr.heap.size := Boxed.lt hrB
      clear hBw hrB
      obtain ⟨hkp, hpo⟩ := HK.out
      rw [List.drop_eq_getElem_cons hlt, ← HCk.out] at hpo
      obtain ⟨r, p, hrole, hstep, hnext⟩ := pensO_step hpo
      have HST := Aside0.mk hstep
      have HNX := Aside0.mk hnext
      have HRO := Aside0.mk hrole
      clear hstep hnext hrole hpo
      obtain ⟨q, hq⟩ : ∃ q, ps.drop k = p :: q := by
        rcases HNX.out with ⟨_, rest, _, h⟩ | ⟨_, h⟩
        · exact ⟨_, h⟩
        · exact ⟨_, h⟩
      have HQ := Aside0.mk hq
      clear hq
      gi_wp2_with fail
      refine ⟨trivial, (callsIn_wide.2 (tabs_role.calls A1 c1 l1 k r _ (Kd.C_alloc (Kd.C_below HC1.out ((hb.trans ((hW.trans HLV.out).below hb.size hO)))) _) hc1 HRO.out)).mono ?_⟩
      rintro e w1 ⟨rfl, hd⟩
      obtain ⟨n1, rfl⟩ := hd.out
      have hLa : Lv Oc W ((wr.alloc (Obj.cells #[Value.int IntKind.u8 c.f0, Value.int IntKind.i64 c.f1, Value.int IntKind.i64 c.f2, Value.int IntKind.i64 c.f3, Value.bool c.f4, Value.bool c.f5] 25)).drewN n1) := (HLV.out.trans (Lv.alloc _ _ _)).trans (Lv.drewN _ _ _)
      have HLa := Aside0.mk hLa
      clear hLa
      have hJa : J k ((wr.alloc (Obj.cells #[Value.int IntKind.u8 c.f0, Value.int IntKind.i64 c.f1, Value.int IntKind.i64 c.f2, Value.int IntKind.i64 c.f3, Value.bool c.f4, Value.bool c.f5] 25)).drewN n1) := hJ _ _ _ hJs ((Lv.alloc _ _ _).trans (Lv.drewN _ _ _))
      rcases HST.out with ⟨rfl, hp⟩ | ⟨hr1, hst⟩
      · subst hp
        obtain ⟨fn, tm, asg, bd, hy, hR⟩ := yieldAt_of hY HQ.out _ hJa
        unfold encPen at hy
        dsimp only at hy
        have z : ((1 : Int) != 1) = false := rfl
        gi_wp2_with fail
        refine hR.mono ?_
        rintro e W3 (⟨rfl, hJ3, hk3⟩ | ⟨rfl, hJx3, hk3⟩)
        · obtain ⟨hkl, hpk, hdr⟩ := drop_at HQ.out
          have hnx : k + 1 ≤ ps.length ∧ pensO l1 (k + 1) y (l0.drop (k + 1)) = some (ps.drop (k + 1)) := by
            refine ⟨hkl, ?_⟩
            rcases HNX.out with ⟨_, rest, h1, h2⟩ | ⟨h1, _⟩
            · rw [h1]; rw [HQ.out] at h2; cases h2; rw [hdr]
            · exact absurd rfl h1
          have HN := Aside0.mk hnx
          have HL := Aside0.mk (HLa.out.trans hk3)
          clear hnx hkl hpk hdr hk3
          gi_wp2
          go_roundw
          case rel => exact ⟨k + 1, y, by omega, by go_num, rfl, rfl, hJ3, HL, HN⟩
          case measure => simp [intOf]; omega
        · obtain ⟨hkl, hpk, hdr⟩ := drop_at HQ.out
          have HN := Aside0.mk hkl
          clear hkl hpk hdr hk3
          gi_wp2
          refine bodyPost_ret (results_none rfl _ _ _) rfl ?_
          exact ⟨⟨_, rfl⟩, .inr ⟨k + 1, by rw [List.length_map]; exact HN.out, hJx3⟩⟩
      · have z : (r != 1) = true := by rw [bne_iff_ne]; exact hr1
        have HST2 := Aside0.mk hst
        clear hst hr1
        gi_wp2_with fail
        refine ⟨trivial, (callsIn_wide.2 (tabs_Step.calls 1 c.f0 c.f1 c.f2 c.f3 c.f4 c.f5 y p.1 p.2 _ HST2.out)).mono ?_⟩
        rintro e w2 ⟨rfl, hb2⟩
        have HLb := Aside0.mk (HLa.out.trans (Lv.of_below hb2))
        have hJb : J k w2 := hJ _ _ _ hJa (Lv.of_below hb2)
        clear hJa hb2
        obtain ⟨fn, tm, asg, bd, hy, hR⟩ := yieldAt_of hY HQ.out _ hJb
        unfold encPen at hy
        gi_wp2_with fail
        refine hR.mono ?_
        rintro e W3 (⟨rfl, hJ3, hk3⟩ | ⟨rfl, hJx3, hk3⟩)
        · obtain ⟨hkl, hpk, hdr⟩ := drop_at HQ.out
          have HL := Aside0.mk (HLb.out.trans hk3)
          clear hk3
          rcases HNX.out with ⟨hp2, rest, h1, h2⟩ | ⟨hp2, h2⟩
          · have hnx : k + 1 ≤ ps.length ∧ pensO l1 (k + 1) p.1 (l0.drop (k + 1)) = some (ps.drop (k + 1)) := by
              refine ⟨hkl, ?_⟩
              rw [h1]; rw [HQ.out] at h2; cases h2; rw [hdr]
            have HN := Aside0.mk hnx
            have z2 : (p.2 != 0) = false := by rw [bne_eq_false_iff_eq]; exact hp2
            have HP2 := Aside0.mk hp2
            clear hnx hkl hpk hdr h1 h2 hp2
            gi_wp2
            go_roundw
            case rel => exact ⟨k + 1, p.1, by omega, by go_num, rfl, by rw [HP2.out], hJ3, HL, HN⟩
            case measure => simp [intOf]; omega
          · have hend : ps.length = k + 1 := by
              have h3 := congrArg List.length h2
              simp at h3
              omega
            have HE := Aside0.mk hend
            have z2 : (p.2 != 0) = true := by rw [bne_iff_ne]; exact hp2
            clear hend hkl hpk hdr h2 hp2
            gi_wp2
            refine bodyPost_ret (results_none rfl _ _ _) rfl ?_
            exact ⟨⟨_, rfl⟩, .inl (by rw [List.length_map, HE.out]; exact hJ3)⟩
        · obtain ⟨hkl, hpk, hdr⟩ := drop_at HQ.out
          have HN := Aside0.mk hkl
          clear hkl hpk hdr hk3
          gi_wp2
          refine bodyPost_ret (results_none rfl _ _ _) rfl ?_
          exact ⟨⟨_, rfl⟩, .inr ⟨k + 1, by rw [List.length_map]; exact HN.out, hJx3⟩⟩
    · obtain rfl : k = l0.length := by omega
      have hend : ps.length = l0.length := by
        have h := HK.out
        rw [List.drop_length, pensO] at h
        have h2 := congrArg List.length (Option.some.inj h.2)
        simp at h2
        omega
      have HE := Aside0.mk hend
      clear hend
      gi_wp2
      go_end0
      exact ⟨⟨_, rfl⟩, .inl (by rw [List.length_map, HE.out]; exact hJs)⟩

theorem infoI : (Try.prog.info? 2).map (fun i => (i.zero, i.size, i.bytes)) = some (some (.int .i64 0), 1, 8) := by kernel_rfl
def badTab (c : S25) : Bool := c.f0 == 4 && decide (c.f3 < 0)
def tabs_Pens.f (l : List S25) (roles : List Int) (x : Int) : Option (List Int × Int) :=
  if l.length < 4398046511104 then
    if l.any badTab then some ([], 2) else
    (unit_Sum.f [x]).bind fun s => if s.2 ≠ 0 then some ([], s.2) else
    (pensO roles 0 x l).map fun ps => if ps.any (fun p => p.2 != 0) then ([], (ps.getLast?.getD (0, 0)).2) else (x :: ps.map (·.1), 0)
  else none

theorem pens_calls (A0 A1 : Option Addr) (c0 c1 n0 n1 : Nat) (x : Int) (w : World) :
    Calls Try.prog 88 #[.slice A0 n0 c0, .slice A1 n1 c1, .int .i64 x] w fun e w' =>
      e = .returned (.func (.func 108) #[] #[.pointer (some ⟨w.heap.size + 2, 0, none⟩), .pointer (some ⟨w.heap.size, 0, none⟩), .pointer (some ⟨w.heap.size + 1, 0, none⟩)]) ∧
      w' = ((w.alloc (.cells #[.slice A0 n0 c0] 22)).alloc (.cells #[.slice A1 n1 c1] 88)).alloc (.cells #[.int .i64 x] 2) := by
  go_enter Try.func88, Try.ntmps88
  go_wp2
  go_ret
  exact ⟨rfl, rfl⟩

structure PensI (w : World) (r D : Nat) (a2 : Int) (ps : List (Int × Int)) (k : Nat) (W : World) : Prop where
  coll : Coll w.heap.size (r + 1 + 1) 91 2 (fun g => g = r + 1 ∨ D + 2 ≤ g) (Value.int .i64) (a2 :: (ps.take k).map (·.1)) W
  b6 : Boxed W w.heap.size 91 (.slice none 0 0)
  b7 : Boxed W (w.heap.size + 1) 26 (.int .i64 0)
  z : (ps.take k).any (fun p => p.2 != 0) = false
  below : Below w.heap.size w W
structure PensX (w : World) (ps : List (Int × Int)) (c : Code) (k : Nat) (W : World) : Prop where
  c : c = .ret
  p : ∃ p, ps[k - 1]? = some p ∧ 0 < k ∧ p.2 ≠ 0 ∧ Boxed W w.heap.size 91 (.slice none 0 0) ∧ Boxed W (w.heap.size + 1) 26 (.int .i64 p.2)
  below : Below w.heap.size w W
theorem pensO_length : ∀ {l : List S25} {roles : List Int} {i : Nat} {x : Int} {ps : List (Int × Int)}, pensO roles i x l = some ps → ps.length ≤ l.length
  | [], _, _, _, _, h => by rw [pensO] at h; cases h; simp
  | c :: l, _, _, _, _, h => by
    obtain ⟨_, p, _, _, h2⟩ := pensO_step h
    rcases h2 with ⟨_, rest, h3, rfl⟩ | ⟨_, rfl⟩
    · have := pensO_length h3
      simp; omega
    · simp

theorem pensO_last : ∀ {l : List S25} {roles : List Int} {i : Nat} {x : Int} {ps : List (Int × Int)} {j : Nat} {p : Int × Int}, pensO roles i x l = some ps → ps[j]? = some p → p.2 ≠ 0 → ps.getLast?.getD (0, 0) = p
  | [], _, _, _, _, _, _, h, hj, _ => by rw [pensO] at h; cases h; simp at hj
  | c :: l, _, _, _, _, j, p, h, hj, hp => by
    obtain ⟨_, q, _, _, h2⟩ := pensO_step h
    rcases h2 with ⟨hq, rest, h3, rfl⟩ | ⟨_, rfl⟩
    · cases j with
      | zero => simp at hj; subst hj; exact absurd hq hp
      | succ j =>
        have h4 := pensO_last h3 (j := j) (by simpa using hj) hp
        cases rest with
        | nil => simp at hj
        | cons a b => rw [List.getLast?_cons_cons]; exact h4
    · cases j with
      | zero => simp at hj; subst hj; rfl
      | succ j => simp at hj

set_option maxRecDepth 100000 in
set_option maxHeartbeats 4000000 in
theorem tabs_Pens.calls (A0 : Option Addr) (c0 : Nat) (l0 : List S25) (A1 : Option Addr) (c1 : Nat) (l1 : List Int) (a2 : Int) (r1 : List Int) (r2 : Int) (w : World) (hr0 : Kd.C k25 w A0 l0.length l0) (hc0 : l0.length ≤ c0) (hr1 : Kd.C (Kd.int .u8) w A1 l1.length l1) (hc1 : l1.length ≤ c1) (h : tabs_Pens.f l0 l1 a2 = some (r1, r2)) :
    Calls Try.prog 50 #[.slice A0 l0.length c0, .slice A1 l1.length c1, .int .i64 a2] w fun e w' => ∃ v0_ : Value, e = .returned (.tuple #[v0_, .int .i64 r2]) ∧ Kd.R (Kd.int .i64) 2 w' w.heap.size (fun _ => True) v0_ r1 ∧ Below w.heap.size w w' := by
  have H := Aside0.mk h
  have HC0 := Aside0.mk hr0
  have HC1 := Aside0.mk hr1
  clear h hr0 hr1
  have hlen : l0.length < 4398046511104 := by
    have h := H.out
    unfold tabs_Pens.f at h
    by_cases e : l0.length < 4398046511104
    · exact e
    · rw [if_neg e] at h; cases h
  refine (callsIn_wide (n := 7)).1 (callsIn_of_wp_marks Try.func50 rfl trivial ?_ rfl)
  refine wpIn_wide.2 ?_
  simp only [Try.ntmps50, List.size_toArray, List.length_cons, List.length_nil, Nat.reduceAdd, Nat.reduceSub, Array.replicate_succ, Array.replicate_zero, List.push_toArray, List.append_toArray, List.nil_append, List.cons_append]
  go_wp2
  go_loopw [17] (fun i wr => ∃ (k : Nat), k ≤ l0.length ∧ i = .int .i64 k ∧ Aside0 ((l0.take k).any badTab = false) ∧ Aside0 (Below w.heap.size w wr) ∧ Aside0 (Boxed wr w.heap.size 91 (.slice none 0 0)) ∧ Aside0 (Boxed wr (w.heap.size + 1) 26 (.int .i64 0)))
    (fun i _ => l0.length - (intOf i).toNat)
  case atStart => exact ⟨0, by omega, rfl, ⟨rfl⟩, ⟨((Below.refl _ w).alloc (Nat.le_refl _) _).alloc (by simp) _⟩, ⟨(boxed_at rfl).alloc _⟩, ⟨boxed_at (by simp)⟩⟩
  case round =>
    obtain ⟨k, hk, rfl, HT, HB, HB6, HB7⟩ := hrel
    by_cases hlt : k < l0.length
    · obtain ⟨ad, e, d0, d1, d2, d3, d4, d5⟩ := at_T25 HC0.out (k : Int) (by omega) (by omega)
      cases e
      have ec : rd_T25 l0 (k : Int) = l0[k] := by unfold rd_T25; rw [Int.toNat_natCast, List.getD_eq_getElem?_getD, List.getElem?_eq_getElem hlt]; rfl
      rw [ec] at d0 d1 d2 d3 d4 d5
      obtain ⟨c, hc⟩ : ∃ c, c = l0[k] := ⟨_, rfl⟩
      rw [← hc] at d0 d1 d2 d3 d4 d5
      have HCk := Aside0.mk hc
      clear hc ec
      rw [Int.toNat_natCast] at d0 d1 d2 d3 d4 d5
      replace d0 := pw_cell_below HB.out d0
      replace d1 := pw_cell_below HB.out d1
      replace d2 := pw_cell_below HB.out d2
      replace d3 := pw_cell_below HB.out d3
      replace d4 := pw_cell_below HB.out d4
      replace d5 := pw_cell_below HB.out d5
      have hz : w.heap.size + 1 < wr.heap.size := Boxed.lt HB7.out
      have hz0 : w.heap.size < wr.heap.size := by omega
      have HN : ∀ b : Bool, badTab c = b → Aside0 (badTab c = b ∧ (l0.take (k + 1)).any badTab = b) := fun b e => ⟨e, by rw [List.take_succ_eq_append_getElem hlt, List.any_append, HT.out, ← HCk.out]; simp [e]⟩
      by_cases hb : badTab c = true
      · have HX := HN _ hb
        have e1 : (c.f0 == 4) = true := by unfold badTab at hb; revert hb; cases (c.f0 == 4) <;> simp
        have e2 : decide (c.f3 < 0) = true := by unfold badTab at hb; rw [e1] at hb; simpa using hb
        clear HN hb
        have g6 := HB6.out.cell
        have g7 := HB7.out.cell
        have f6 := HB6.out.frozen
        have f7 := HB7.out.frozen
        have hr : r1 = [] ∧ r2 = 2 := by
          have h := H.out
          unfold tabs_Pens.f at h
          rw [if_pos hlen, if_pos (List.any_eq_true.2 ⟨c, by rw [HCk.out]; exact List.getElem_mem hlt, HX.out.1⟩)] at h
          have := Option.some.inj h
          exact ⟨(Prod.mk.inj this).1.symm, (Prod.mk.inj this).2.symm⟩
        have HR := Aside0.mk hr
        clear hr
        go_wp2
        have k6 := fun o => (((HB6.out.set (.slice none 0 0)).other (B' := w.heap.size + 1) (by omega) (.int .i64 2)).alloc o).cell
        have k7 := fun o => (((HB7.out.other (B' := w.heap.size) (by omega) (.slice none 0 0)).set (.int .i64 2)).alloc o).cell
        refine ⟨.tuple #[.slice none 0 0, .int .i64 2], by simp [results, Try.f50, go_sem, k6, k7], _, by rw [HR.out.2], by rw [HR.out.1]; exact Kd.R_nil _ _ _ _ _, ?_⟩
        exact (((HB.out.setCell (p := ⟨w.heap.size, 0, none⟩) (Nat.le_refl _) _)).setCell (p := ⟨w.heap.size + 1, 0, none⟩) (by simp) _).alloc (by simp; omega) _
      · replace hb : badTab c = false := by simpa using hb
        have HX := HN _ hb
        have e0 : (c.f0 == 4) = false ∨ ((c.f0 == 4) = true ∧ decide (c.f3 < 0) = false) := by unfold badTab at hb; revert hb; cases (c.f0 == 4) <;> simp
        clear HN hb
        rcases e0 with e1 | ⟨e1, e2⟩
        all_goals
          go_wp2
          go_roundw
          case rel => exact ⟨k + 1, by omega, by go_num, ⟨HX.out.2⟩, ⟨below_alloc HB.out _⟩, ⟨HB6.out.alloc _⟩, ⟨HB7.out.alloc _⟩⟩
          case measure => simp [intOf]; omega
    · obtain rfl : k = l0.length := by omega
      have hT : l0.any badTab = false := by have := HT.out; rwa [List.take_length] at this
      have hH : ((unit_Sum.f [a2]).bind fun s => if s.2 ≠ 0 then some ([], s.2) else
        (pensO l1 0 a2 l0).map fun ps => if ps.any (fun p => p.2 != 0) then ([], (ps.getLast?.getD (0, 0)).2) else (a2 :: ps.map (·.1), 0)) = some (r1, r2) := by
        have h := H.out
        unfold tabs_Pens.f at h
        rw [if_pos hlen, if_neg (by simp [hT])] at h
        exact h
      obtain ⟨s, hs, hH⟩ := Option.bind_eq_some_iff.1 hH
      have HS := Aside0.mk hs
      clear hs hT HT H
      go_wp2_with fail
      refine (unit_Sum.calls (some ⟨wr.heap.size, 0, none⟩) 1 [a2] s.1 s.2 _ (lit1_C _ _ _ _) (by simp) HS.out).mono ?_
      rintro e w1 ⟨rfl, hd⟩
      obtain ⟨n1, rfl⟩ := hd.out
      have hz : w.heap.size + 1 < wr.heap.size := Boxed.lt HB7.out
      have hz0 : w.heap.size < wr.heap.size := by omega
      by_cases hs2 : s.2 = 0
      · rw [if_neg (by simp [hs2])] at hH
        obtain ⟨ps, hps, hfin⟩ := Option.map_eq_some_iff.1 hH
        have HPS := Aside0.mk hps
        have HF := Aside0.mk hfin
        have z1 : (s.2 != 0) = false := by simp [hs2]
        clear hH hs2 hps hfin
        go_wp2_with (go_at_call 88; refine (pens_calls _ _ _ _ _ _ _ _).mono ?_; rintro e w' ⟨rfl, rfl⟩)
        refine wp_name ?_
        intro W0 hW0
        have hsz : W0.heap.size = wr.heap.size + 6 := by rw [hW0]; simp
        have b6 : Boxed W0 w.heap.size 91 (.slice none 0 0) := by rw [hW0]; exact (((((((HB6.out.alloc _)).alloc _).alloc _).alloc _).alloc _).alloc _)
        have b7 : Boxed W0 (w.heap.size + 1) 26 (.int .i64 0) := by rw [hW0]; exact (((((((HB7.out.alloc _)).alloc _).alloc _).alloc _).alloc _).alloc _)
        have bo : Boxed W0 (wr.heap.size + 1 + 1) 91 (.slice (some ⟨wr.heap.size + 1, 0, none⟩) 1 1) := by
          rw [hW0]; exact ((((boxed_at (by simp)).alloc _).alloc _).alloc _)
        have bs : Boxed W0 (wr.heap.size + 1) 2 (.int .i64 a2) := by
          rw [hW0]; exact (((((boxed_at (by simp)).alloc _).alloc _).alloc _).alloc _)
        have bl : Boxed W0 (wr.heap.size + 3) 22 (.slice A0 l0.length c0) := by
          rw [hW0]; exact (((boxed_at (by simp)).alloc _).alloc _)
        have br : Boxed W0 (wr.heap.size + 4) 88 (.slice A1 l1.length c1) := by
          rw [hW0]; exact ((boxed_at (by simp)).alloc _)
        have bx : Boxed W0 (wr.heap.size + 5) 2 (.int .i64 a2) := by
          rw [hW0]; exact boxed_at (by simp)
        have hB0 : Below w.heap.size w W0 := by
          rw [hW0]; exact below_alloc (below_alloc (below_alloc (below_alloc (below_alloc (pw_below_drewN (below_alloc HB.out _) _) _) _) _) _) _
        have hsz1 : W0.heap.size ≤ wr.heap.size + 6 := by omega
        have hsz2 : wr.heap.size + 6 ≤ W0.heap.size := by omega
        clear hW0 HB HB6 HB7 hsz
        have hps := pensO_length HPS.out
        apply wp_ranged (m := 3) (gf := 108) (lb := #[.pointer (some ⟨wr.heap.size + 5, 0, none⟩), .pointer (some ⟨wr.heap.size + 3, 0, none⟩), .pointer (some ⟨wr.heap.size + 4, 0, none⟩)]) (by simp [go_sem]) (enters_of Try.func108 (by kernel_rfl) rfl)
          ps (fun p => #[.int .i64 p.1, .int .i64 p.2]) (fun _ _ => rfl) (fun _ => False) (fun i => i = w.heap.size ∨ i = w.heap.size + 1 ∨ i = wr.heap.size + 1 ∨ i = wr.heap.size + 1 + 1 ∨ W0.heap.size + 2 ≤ i) ⟨by omega, by omega⟩ (fun _ h => h.elim)
          (pens_seq 2 w W0 hB0 A0 A1 c0 c1 l0 l1 a2 HC0.out HC1.out hc1 _ _ _ bx bl br _ (by omega) (by omega) (by omega) (fun i hi => by omega) ps HPS.out (by omega))
          (PensI w wr.heap.size W0.heap.size a2 ps) (PensX w ps)
          ?hI ?hIx ?h0 _ ?assign ?body ?done ?stop
        case hI =>
          rintro k A B ⟨hC, h6, h7, hz', hB⟩ hl
          exact ⟨hC.lv hl (by rintro (h | h | h) <;> omega) (fun g hg => by rintro (h | h | h) <;> omega), boxed_lv hl h6 (by rintro (h | h | h) <;> omega), boxed_lv hl h7 (by rintro (h | h | h) <;> omega), hz', hB.trans (hl.below hB.size (fun i hi => by rintro (h | h | h) <;> omega))⟩
        case hIx =>
          rintro c k A B ⟨hc, ⟨p, hp, hk0, hp2, h6, h7⟩, hB⟩ hl
          exact ⟨hc, ⟨p, hp, hk0, hp2, boxed_lv hl h6 (by rintro (h | h | h) <;> omega), boxed_lv hl h7 (by rintro (h | h | h) <;> omega)⟩, hB.trans (hl.below hB.size (fun i hi => by rintro (h | h | h) <;> omega))⟩
        case h0 => exact ⟨coll_lit bo bs (by omega) (.inl rfl), b6, b7, rfl, hB0⟩
        case assign =>
          intro l x W K _ hK
          gi_wp2
          exact hK
        case body =>
          rintro l k hk W hD ⟨rL, hL⟩ ⟨⟨v, bv, hrow, hOg⟩, hb6, hb7, hz', hB⟩
          have hW2 : W0.heap.size + 1 < W.heap.size := (Array.getElem?_eq_some_iff.1 hL).1
          obtain ⟨p, hp⟩ : ∃ p, p = ps[k] := ⟨_, rfl⟩
          rw [← hp]
          have HP := Aside0.mk hp
          clear hp hD hL
          have l6 : w.heap.size < W.heap.size := by omega
          have l7 : w.heap.size + 1 < W.heap.size := by omega
          obtain ⟨ys, hys⟩ : ∃ ys, ys = a2 :: (ps.take k).map (·.1) := ⟨_, rfl⟩
          rw [← hys] at hrow
          have hlk : ys.length = k + 1 := by rw [hys]; simp; omega
          have HYS := Aside0.mk hys
          clear hys
          by_cases h2 : p.2 = 0
          · have z : (p.2 != 0) = false := by rw [bne_eq_false_iff_eq]; exact h2
            have H2 := Aside0.mk h2
            have gv := bv.cell
            have HZ := Aside0.mk hz'
            have HLK := Aside0.mk hlk
            clear h2 hz' hlk
            obtain ⟨i0, hi, hz0, hz1, hz2⟩ := info_parts infoI
            gi_wp2_with (gi_at_builtin; refine wpListIn_append_own_at _ rfl _ _ 91 rfl w.heap.size 2 i0 (.int .i64 0) 1 8 Try.underlying91 hi hz0 hz1 hz2 rfl (by decide) _ _ _ rfl (hrow.alloc _) ⟨W.heap.size, 0, none⟩ 1 1 [.int .i64 p.1] rfl rfl (cell_one_new _ _ _) (by simp [Value.oneCell']) (by rw [HLK.out]; simp only [maxLen]; omega) (by rw [HLK.out]; omega) (by simp; omega) ?_; intro v' w1 hown' hgrow _ hat; obtain ⟨g', cap', rfl⟩ := ownsRow_succ hown'; have HAP := Aside0.mk (coll_appended (Ob := fun i => i = wr.heap.size + 1 ∨ i = wr.heap.size + 1 + 1 ∨ W0.heap.size + 2 ≤ i) bv (by decide) hrow hOg (fun g hg => .inr (by omega)) (by omega) (by omega) hown' hgrow hat (fun g hg => by omega) (by omega)); have HG := Aside0.mk (bv.not_row (by decide) hrow); have bv1 := (bv.alloc _).kept hgrow HG.out; have hc1 := bv1.cell; have hf1 := bv1.frozen; clear hown' hgrow hat)
            refine ⟨HAP.out.2.1.mono (fun i _ h => by omega), ⟨?_, boxed_lv HAP.out.2.1 hb6 (by omega), boxed_lv HAP.out.2.1 hb7 (by omega), ?_, hB.trans HAP.out.2.2⟩⟩
            · have h := HAP.out.1
              rw [List.take_succ_eq_append_getElem hk, List.map_append, ← HP.out]
              obtain rfl := HYS.out
              exact h
            · rw [List.take_succ_eq_append_getElem hk, List.any_append, HZ.out, ← HP.out]
              simp [z]
          · have z : (p.2 != 0) = true := by rw [bne_iff_ne]; exact h2
            have g6 := hb6.cell
            have g7 := hb7.cell
            have f6 := hb6.frozen
            have f7 := hb7.frozen
            gi_wp2
            exact ⟨(Lv.setCell _ (.inl rfl)).trans (Lv.setCell _ (.inr (.inl rfl))), rfl, ⟨p, by rw [Nat.add_sub_cancel, HP.out]; exact List.getElem?_eq_getElem hk, by omega, h2, (hb6.set _).other (by omega) _, (hb7.other (by omega) _).set _⟩, (hB.setCell (p := ⟨w.heap.size, 0, none⟩) (Nat.le_refl _) _).setCell (p := ⟨w.heap.size + 1, 0, none⟩) (by simp) _⟩
        case done =>
          rintro W ⟨⟨v, bv, hrow, hOg⟩, hb6, hb7, hz', hB⟩ hD
          rw [List.take_length] at hrow hz'
          have hr : r1 = a2 :: ps.map (·.1) ∧ r2 = 0 := by
            have h := HF.out
            rw [if_neg (by rw [hz']; simp)] at h
            exact ⟨(Prod.mk.inj h).1.symm, (Prod.mk.inj h).2.symm⟩
          have HR := Aside0.mk hr
          have HZ := Aside0.mk hz'
          have hDl : W0.heap.size < W.heap.size := (Array.getElem?_eq_some_iff.1 hD).1
          have l6 : w.heap.size < W.heap.size := by omega
          have l7 : w.heap.size + 1 < W.heap.size := by omega
          have gv := bv.cell
          have g6 := hb6.cell
          have g7 := hb7.cell
          have f6 := hb6.frozen
          have f7 := hb7.frozen
          obtain ⟨Av, cv, hv⟩ := own_slice hrow
          subst hv
          clear hr hz'
          go_wp2
          have hL3 : Lv (fun i => i = w.heap.size ∨ i = w.heap.size + 1) W ((W.setCell ⟨w.heap.size, 0, none⟩ (.slice Av (ps.length + 1) cv)).setCell ⟨w.heap.size + 1, 0, none⟩ (.int .i64 0)) := (Lv.setCell _ (.inl rfl)).trans (Lv.setCell _ (.inr rfl))
          have hK3 := hL3.heap hD (by omega)
          refine ⟨by simp, .inl ⟨W0.heap.size, _, rfl, run_takeDeferred hK3, ?_⟩⟩
          have hL4 := Lv.putObj (O := fun i => i = W0.heap.size) (A := (W.setCell ⟨w.heap.size, 0, none⟩ (.slice Av (ps.length + 1) cv)).setCell ⟨w.heap.size + 1, 0, none⟩ (.int .i64 0)) (.deferred none) rfl
          have k6 := (boxed_lv hL4 ((hb6.set (.slice Av (ps.length + 1) cv)).other (B' := w.heap.size + 1) (by omega) (.int .i64 0)) (by omega)).cell
          have k7 := (boxed_lv hL4 ((hb7.other (B' := w.heap.size) (by omega) (.slice Av (ps.length + 1) cv)).set (.int .i64 0)) (by omega)).cell
          refine ⟨.tuple #[.slice Av (ps.length + 1) cv, .int .i64 0], by simp [results, Try.f50, go_sem, k6, k7], _, by rw [HR.out.2], ?_, ?_⟩
          · rw [HR.out.1]
            have hr3 := own_lv hL4 (own_lv hL3 hrow (fun g hg => by have := hOg g hg; omega)) (fun g hg => by have := hOg g hg; omega)
            refine Kd.R_of_own ?_ (fun _ _ => trivial)
            simpa [encs] using hr3
          · exact hB.trans ((hL3.below (by omega) (fun i hi => by omega)).trans (hL4.below (by simp [World.setCell]; omega) (fun i hi => by omega)))
        case stop =>
          rintro c k W hk ⟨rfl, ⟨p, hp, hk0, hp2, h6, h7⟩, hB⟩ hD
          have hr : r1 = [] ∧ r2 = p.2 := by
            have h := HF.out
            have hm : p ∈ ps := List.mem_of_getElem? hp
            rw [if_pos (List.any_eq_true.2 ⟨p, hm, by simpa using hp2⟩)] at h
            have hl := pensO_last HPS.out hp hp2
            rw [hl] at h
            exact ⟨(Prod.mk.inj h).1.symm, (Prod.mk.inj h).2.symm⟩
          have HR := Aside0.mk hr
          have hDl : W0.heap.size < W.heap.size := (Array.getElem?_eq_some_iff.1 hD).1
          clear hr
          go_wp2
          refine ⟨by simp, .inl ⟨W0.heap.size, _, rfl, run_takeDeferred hD, ?_⟩⟩
          have hL4 := Lv.putObj (O := fun i => i = W0.heap.size) (A := W) (.deferred none) rfl
          have k6 := (boxed_lv hL4 h6 (by omega)).cell
          have k7 := (boxed_lv hL4 h7 (by omega)).cell
          refine ⟨.tuple #[.slice none 0 0, .int .i64 p.2], by simp [results, Try.f50, go_sem, k6, k7], _, by rw [HR.out.2], by rw [HR.out.1]; exact Kd.R_nil _ _ _ _ _, ?_⟩
          exact hB.trans (hL4.below (by omega) (fun i hi => by omega))
      · rw [if_pos hs2] at hH
        have z1 : (s.2 != 0) = true := by simp [hs2]
        have HR := Aside0.mk (Prod.mk.inj (Option.some.inj hH))
        clear hH hs2
        have g6 := HB6.out.cell
        have g7 := HB7.out.cell
        have f6 := HB6.out.frozen
        have f7 := HB7.out.frozen
        go_wp2
        have k6 := (((boxed_drewN (n := n1) (HB6.out.alloc (.cells #[.int .i64 a2] 2))).set (.slice none 0 0)).other (B' := w.heap.size + 1) (by omega) (.int .i64 s.snd)).cell
        have k7 := (((boxed_drewN (n := n1) (HB7.out.alloc (.cells #[.int .i64 a2] 2))).other (B' := w.heap.size) (by omega) (.slice none 0 0)).set (.int .i64 s.snd)).cell
        refine ⟨.tuple #[.slice none 0 0, .int .i64 s.snd], by simp [results, Try.f50, go_sem, k6, k7], _, by rw [HR.out.2], by rw [← HR.out.1]; exact Kd.R_nil _ _ _ _ _, ?_⟩
        exact (((pw_below_drewN (below_alloc HB.out _) _)).setCell (p := ⟨w.heap.size, 0, none⟩) (Nat.le_refl _) _).setCell (p := ⟨w.heap.size + 1, 0, none⟩) (by simp) _
end

/-! ### tabs_End: function 19 -/
def tabs_End.f (l0 : List (S25)) (l1 : List Int) (a2 : Int) : Option (Int × Int) := (tabs_Pens.f l0 l1 a2).bind fun bt132 => (if bt132.2 = 0 then (if 0 ≤ (wrap64 ((bt132.1.length : Int) - 1)) then (if (wrap64 ((bt132.1.length : Int) - 1)) < (bt132.1.length : Int) then (some (rd bt132.1 (wrap64 ((bt132.1.length : Int) - 1)), 0)) else (none)) else (none)) else (some (0, bt132.2)))
set_option maxHeartbeats 8000000 in
set_option maxRecDepth 100000 in
theorem tabs_End.calls (A0 : Option Addr) (c0 : Nat) (l0 : List (S25)) (A1 : Option Addr) (c1 : Nat) (l1 : List Int) (a2 : Int) (r1 : Int) (r2 : Int) (w : World) (hr0 : Kd.C k25 w A0 l0.length l0) (hc0 : l0.length ≤ c0) (hr1 : Kd.C (Kd.int .u8) w A1 l1.length l1) (hc1 : l1.length ≤ c1) (h : tabs_End.f l0 l1 a2 = some (r1, r2)) :
    Calls Try.prog 19 #[.slice A0 l0.length c0, .slice A1 l1.length c1, .int .i64 a2] w fun e w' => e = .returned (.tuple #[.int .i64 r1, .int .i64 r2]) ∧ Below w.heap.size w w' := by
  have HR0 := Aside0.mk hr0
  have HC0 := Aside0.mk hc0
  clear hr0 hc0
  have HR1 := Aside0.mk hr1
  have HC1 := Aside0.mk hc1
  clear hr1 hc1
  have HB := Aside0.mk (Below.refl w.heap.size w)
  have H : ((tabs_Pens.f l0 l1 a2).bind fun bt132 => (if bt132.2 = 0 then (if 0 ≤ (wrap64 ((bt132.1.length : Int) - 1)) then (if (wrap64 ((bt132.1.length : Int) - 1)) < (bt132.1.length : Int) then (some (rd bt132.1 (wrap64 ((bt132.1.length : Int) - 1)), 0)) else (none)) else (none)) else (some (0, bt132.2)))) = some (r1, r2) := h
  clear h
  replace H := Option.bind_eq_some_iff.mp H
  obtain ⟨⟨t132, t133⟩, A40, H⟩ := H
  replace H : (if t133 = 0 then (if 0 ≤ (wrap64 ((t132.length : Int) - 1)) then (if (wrap64 ((t132.length : Int) - 1)) < (t132.length : Int) then (some (rd t132 (wrap64 ((t132.length : Int) - 1)), 0)) else (none)) else (none)) else (some (0, t133))) = some (r1, r2) := H
  have A4 := Aside0.mk A40
  clear A40
  by_cases c5 : t133 = 0
  · rw [if_pos c5] at H
    have c5b0 : (t133 == 0) = true := beq_iff_eq.mpr c5
    have c5b1 : (t133 != 0) = false := bne_eq_false_iff_eq.mpr c5
    clear c5
    obtain ⟨ji6, hji6⟩ : ∃ j_ : Int, (wrap64 ((t132.length : Int) - 1)) = j_ := ⟨_, rfl⟩
    replace H : (if 0 ≤ (ji6) then (if (ji6) < (t132.length : Int) then (some (rd t132 (ji6), 0)) else (none)) else (none)) = some (r1, r2) := by first | (rw [hji6] at H; exact H) | (simp only [hji6] at H ⊢; exact H)
    (try rw [hji6] at A4)
    have hji6w : (IntKind.i64.wrap ((t132.length : Int) - 1)) = ji6 := (i64_w _).trans hji6
    by_cases c7 : 0 ≤ (ji6)
    · rw [if_pos c7] at H
      have c7b0 : decide (0 ≤ (ji6)) = true := decide_eq_true c7
      clear c7
      by_cases c8 : (ji6) < (t132.length : Int)
      · rw [if_pos c8] at H
        have c8b0 : decide ((ji6) < (t132.length : Int)) = true := decide_eq_true c8
        clear c8
        simp only [Option.some.injEq, Prod.mk.injEq] at H
        obtain ⟨rfl, rfl⟩ := H
        go_enter Try.func19, Try.ntmps19
        go_wp2_with (first | ((with_reducible refine gate_callee (f := 50) rfl ?_); refine goesL_ (some 14) rfl rfl Try.func50 (by kernel_rfl) rfl #[.slice A0 l0.length c0, .slice A1 l1.length c1, .int .i64 a2] rfl (by (try simp only [List.map_toArray, List.map_cons, List.map_nil]); first | done | rfl | (simp only [List.length_drop, List.length_take]; rfl)) ?_; (with_reducible refine (tabs_Pens.calls _ _ l0 _ _ l1 a2 t132 t133 _ ?side1 ?side2 ?side3 ?side4 A4.out).mono ?_); (case side1 => repeat (first | exact HR0.out | (with_reducible refine Kd.C_alloc ?_ _) | (with_reducible refine Kd.C_drewN ?_ _) | (with_reducible refine Kd.C_drew ?_))); (case side2 => exact HC0.out); (case side3 => repeat (first | exact HR1.out | (with_reducible refine Kd.C_alloc ?_ _) | (with_reducible refine Kd.C_drewN ?_ _) | (with_reducible refine Kd.C_drew ?_))); (case side4 => exact HC1.out); rintro e w9 ⟨v134, rfl, ho0, hb⟩; refine ⟨_, rfl, ?_⟩; have n0_ := Aside0.mk (Kd.R_lower ho0 (below_size (by repeat (first | (with_reducible first | exact HB.out | apply below_alloc | apply pw_below_drewN | apply below_drew1) | exact HB.out)))); have n1_ := Aside0.mk (below_step (by repeat (first | (with_reducible first | exact HB.out | apply below_alloc | apply pw_below_drewN | apply below_drew1) | exact HB.out)) hb); clear HB; have HO135 := n0_; have HB := n1_; clear n0_ n1_; (try clear hb); (try clear hb2); (try clear hk); (try clear hi); (try clear ho0); obtain ⟨Ao10, co10, eo10⟩ := Kd.R_slice HO135.out; subst eo10; have p136 : 0 ≤ ((ji6) : Int) := of_decide_eq_true (by first | (with_reducible assumption) | assumption); have q136 : (ji6) < (t132.length : Int) := of_decide_eq_true (by first | (with_reducible assumption) | assumption); obtain ⟨ad136, e136, hx136_0⟩ := Kd.at_int (Kd.R_reads' HO135.out).2.2 (ji6) p136 q136; cases e136; replace p136 := eq_true p136; replace q136 := eq_true q136))
        go_ret2
        exact ⟨by first | rfl | (simp [errW_none, errW_some] <;> rfl) | (simp only [← hji6]; first | rfl | (simp [errW_none, errW_some] <;> rfl)) | (simp [*, errW_none, errW_some] <;> rfl), by repeat (first | (with_reducible first | exact HB.out | apply below_alloc | apply pw_below_drewN | apply below_drew1) | exact HB.out)⟩
      · rw [if_neg c8] at H
        exact absurd H (by simp)
    · rw [if_neg c7] at H
      exact absurd H (by simp)
  · rw [if_neg c5] at H
    have c5b0 : (t133 == 0) = false := beq_eq_false_iff_ne.mpr c5
    have c5b1 : (t133 != 0) = true := bne_iff_ne.mpr c5
    simp only [Option.some.injEq, Prod.mk.injEq] at H
    obtain ⟨rfl, rfl⟩ := H
    go_enter Try.func19, Try.ntmps19
    go_wp2_with (first | ((with_reducible refine gate_callee (f := 50) rfl ?_); refine goesL_ (some 14) rfl rfl Try.func50 (by kernel_rfl) rfl #[.slice A0 l0.length c0, .slice A1 l1.length c1, .int .i64 a2] rfl (by (try simp only [List.map_toArray, List.map_cons, List.map_nil]); first | done | rfl | (simp only [List.length_drop, List.length_take]; rfl)) ?_; (with_reducible refine (tabs_Pens.calls _ _ l0 _ _ l1 a2 t132 t133 _ ?side1 ?side2 ?side3 ?side4 A4.out).mono ?_); (case side1 => repeat (first | exact HR0.out | (with_reducible refine Kd.C_alloc ?_ _) | (with_reducible refine Kd.C_drewN ?_ _) | (with_reducible refine Kd.C_drew ?_))); (case side2 => exact HC0.out); (case side3 => repeat (first | exact HR1.out | (with_reducible refine Kd.C_alloc ?_ _) | (with_reducible refine Kd.C_drewN ?_ _) | (with_reducible refine Kd.C_drew ?_))); (case side4 => exact HC1.out); rintro e w11 ⟨v134, rfl, ho0, hb⟩; refine ⟨_, rfl, ?_⟩; have n0_ := Aside0.mk (Kd.R_lower ho0 (below_size (by repeat (first | (with_reducible first | exact HB.out | apply below_alloc | apply pw_below_drewN | apply below_drew1) | exact HB.out)))); have n1_ := Aside0.mk (below_step (by repeat (first | (with_reducible first | exact HB.out | apply below_alloc | apply pw_below_drewN | apply below_drew1) | exact HB.out)) hb); clear HB; have HO135 := n0_; have HB := n1_; clear n0_ n1_; (try clear hb); (try clear hb2); (try clear hk); (try clear hi); (try clear ho0)))
    go_ret2
    exact ⟨by first | rfl | (simp [errW_none, errW_some] <;> rfl) | (simp [*, errW_none, errW_some] <;> rfl), by repeat (first | (with_reducible first | exact HB.out | apply below_alloc | apply pw_below_drewN | apply below_drew1) | exact HB.out)⟩

/-! ### trim_Fits: function 17 -/
-- needs func trim.Roles tabs.End
section
open Go.Proofs.Ytkcmehijmgjgfaa.It Go.Shelf
def unh (r : Int) : Int := if r = 2 then 1 else r
def unhang (o : List Int) : List Int := o.map unh
def midS (o : List Int) (k : Nat) : List Int := (o.take k).map unh ++ o.drop k
def trim_Fits.f (l : List S25) (x : Int) : Option (Int × Int) := (trim_Roles.f l).bind fun r => tabs_End.f l (unhang r) x
theorem midS_length (o : List Int) (k : Nat) : (midS o k).length = o.length := by simp [midS]; omega
theorem midS_at (o : List Int) (k : Nat) (h : k < o.length) : rd (midS o k) k = rd o k := by
  simp [rd, midS, List.getD_eq_getElem?_getD, List.getElem?_append, Nat.min_eq_left (Nat.le_of_lt h)]
theorem midS_succ (o : List Int) (k : Nat) (h : k < o.length) : midS o (k + 1) = (midS o k).set k (unh (rd o k)) := by
  have e : rd o k = o[k] := by simp [rd, List.getD_eq_getElem?_getD, List.getElem?_eq_getElem h]
  rw [e]
  unfold midS
  have h1 : o.drop k = o[k] :: o.drop (k + 1) := List.drop_eq_getElem_cons h
  have h2 : ((o.take k).map unh).length = k := by simp; omega
  rw [List.take_succ_eq_append_getElem h, List.map_append, List.set_append, if_neg (by omega), h2, Nat.sub_self, h1, List.set_cons_zero, List.append_assoc]
  rfl
theorem midS_same (o : List Int) (k : Nat) (h : k < o.length) (h2 : rd o k ≠ 2) : midS o (k + 1) = midS o k := by
  rw [midS_succ o k h, unh, if_neg h2]
  have := midS_at o k h
  apply List.ext_getElem
  · simp
  · intro i h1 h3
    rw [List.getElem_set]
    split
    · rename_i e; subst e
      rw [← this]
      simp [rd, List.getD_eq_getElem?_getD, List.getElem?_eq_getElem h3]
    · rfl
theorem trim_Roles_len {l : List S25} {r : List Int} (h : trim_Roles.f l = some r) : r.length = l.length ∧ l.length < 4398046511104 := by
  unfold trim_Roles.f at h
  by_cases e : l.length < 4398046511104
  · rw [if_pos e] at h
    obtain rfl := Option.some.inj h
    exact ⟨by unfold rolesS; simp [giveS_length], e⟩
  · rw [if_neg e] at h; cases h

set_option maxRecDepth 100000 in
set_option maxHeartbeats 2000000 in
theorem trim_Fits.calls (A0 : Option Addr) (c0 : Nat) (l0 : List S25) (a1 r1 r2 : Int) (w : World) (hr0 : Kd.C k25 w A0 l0.length l0) (hc0 : l0.length ≤ c0) (h : trim_Fits.f l0 a1 = some (r1, r2)) :
    Calls Try.prog 17 #[.slice A0 l0.length c0, .int .i64 a1] w fun e w' => e = .returned (.tuple #[.int .i64 r1, .int .i64 r2]) ∧ Below w.heap.size w w' := by
  obtain ⟨o, ho, hend⟩ := Option.bind_eq_some_iff.1 h
  obtain ⟨hol, hlen⟩ := trim_Roles_len ho
  have HE := Aside0.mk hend
  have HO := Aside0.mk ho
  have HC0 := Aside0.mk hr0
  have HOL := Aside0.mk hol
  have hol1 : o.length < 4398046511104 := by omega
  clear h hend ho hr0 hol
  go_enter Try.func17, Try.ntmps17
  go_wp2_with fail
  refine (trim_Roles.calls A0 c0 l0 o _ HC0.out hc0 HO.out).mono ?_
  rintro e w1 ⟨v, rfl, hR, hB⟩
  have hown := Kd.own_of_R hR
  obtain ⟨Av, cv, hv⟩ := own_slice hown
  subst hv
  have HOW := Aside0.mk hown
  have HB := Aside0.mk hB
  clear hR hown hB
  go_wp2_with fail
  go_loopw [13] (fun i wr => ∃ (k : Nat), k ≤ o.length ∧ i = .int .i64 k ∧ Aside0 (wr.ownsRow w.heap.size 5 1 (.slice Av o.length cv) o.length (nums .u8 (midS o k))) ∧ Aside0 (Below w.heap.size w wr))
    (fun i _ => o.length - (intOf i).toNat)
  case atStart => exact ⟨0, by omega, rfl, ⟨by simpa [midS, nums, encs] using HOW.out⟩, ⟨HB.out⟩⟩
  case round =>
    obtain ⟨k, hk, rfl, HOk, HBk⟩ := hrel
    by_cases hlt : k < o.length
    · obtain ⟨g, cap, hv, hb0, _⟩ := HOk.out.form (by omega)
      cases hv
      have hat := own_at HOk.out (k : Int) (by omega) (by omega)
      rw [midS_at o k hlt, Int.toNat_natCast] at hat
      obtain ⟨x, hx⟩ : ∃ x, x = rd o k := ⟨_, rfl⟩
      rw [← hx] at hat
      have HX := Aside0.mk hx
      clear hx
      obtain ⟨c1, c2⟩ := hat
      by_cases h2 : x = 2
      · have z : (x == 2) = true := by simpa using h2
        have H2 := Aside0.mk h2
        have HS := Aside0.mk (own_store HOk.out (k : Int) 1)
        clear h2
        go_wp2
        go_roundw
        case rel =>
          refine ⟨k + 1, by omega, by go_num, ⟨?_⟩, ⟨HBk.out.setCell (p := ⟨g, k, none⟩) hb0 _⟩⟩
          have h3 := HS.out.1
          rw [Int.toNat_natCast] at h3
          rw [midS_succ o k hlt, ← HX.out, H2.out]
          exact h3
        case measure => simp [intOf]; omega
      · have z : (x == 2) = false := by simpa using h2
        have H2 := Aside0.mk h2
        clear h2
        go_wp2
        go_roundw
        case rel => exact ⟨k + 1, by omega, by go_num, ⟨by rw [midS_same o k hlt (by rw [← HX.out]; exact H2.out)]; exact HOk.out⟩, ⟨HBk.out⟩⟩
        case measure => simp [intOf]; omega
    · obtain rfl : k = o.length := by omega
      have hm : midS o o.length = unhang o := by simp [midS, unhang]
      have hR : Kd.R (Kd.int .u8) 5 wr w.heap.size (fun _ => True) (.slice Av o.length cv) (unhang o) := by
        have h3 := HOk.out
        rw [hm] at h3
        exact Kd.R_of_own (enc := Value.int .u8) (h1 := fun _ => rfl) (by simpa [unhang, nums, encs] using h3) (fun _ _ => trivial)
      have hul : (unhang o).length = o.length := by simp [unhang]
      obtain ⟨q1, q2, q3⟩ := Kd.R_reads' hR
      have hc := tabs_End.calls A0 c0 l0 Av cv (unhang o) a1 r1 r2 wr (Kd.C_below HC0.out HBk.out) hc0 q3 (by omega) HE.out
      rw [hul] at hc
      have HCALL := Aside0.mk hc
      clear hm hR hul q1 q2 q3 hc
      go_wp2_with fail
      refine HCALL.out.mono ?_
      rintro e w3 ⟨rfl, hb3⟩
      have HB3 := Aside0.mk (below_step HBk.out hb3)
      clear hb3
      go_wp2
      go_ret2
      exact ⟨rfl, HB3.out⟩
end

/-! ### trim_Goes: function 18 -/
def trim_Goes.f (l0 : List (S25)) (a1 : Int) : Option (Int × Int) := (trim_Roles.f l0).bind fun t137 => ((tabs_End.f l0 t137 a1).bind fun bt140 => (some (bt140.1, bt140.2)))
set_option maxHeartbeats 8000000 in
set_option maxRecDepth 100000 in
theorem trim_Goes.calls (A0 : Option Addr) (c0 : Nat) (l0 : List (S25)) (a1 : Int) (r1 : Int) (r2 : Int) (w : World) (hr0 : Kd.C k25 w A0 l0.length l0) (hc0 : l0.length ≤ c0) (h : trim_Goes.f l0 a1 = some (r1, r2)) :
    Calls Try.prog 18 #[.slice A0 l0.length c0, .int .i64 a1] w fun e w' => e = .returned (.tuple #[.int .i64 r1, .int .i64 r2]) ∧ Below w.heap.size w w' := by
  have HR0 := Aside0.mk hr0
  have HC0 := Aside0.mk hc0
  clear hr0 hc0
  have HB := Aside0.mk (Below.refl w.heap.size w)
  have H : ((trim_Roles.f l0).bind fun t137 => ((tabs_End.f l0 t137 a1).bind fun bt140 => (some (bt140.1, bt140.2)))) = some (r1, r2) := h
  clear h
  replace H := Option.bind_eq_some_iff.mp H
  obtain ⟨t137, A30, H⟩ := H
  replace H : ((tabs_End.f l0 t137 a1).bind fun bt140 => (some (bt140.1, bt140.2))) = some (r1, r2) := H
  have A3 := Aside0.mk A30
  clear A30
  replace H := Option.bind_eq_some_iff.mp H
  obtain ⟨⟨t140, t141⟩, A40, H⟩ := H
  replace H : (some (t140, t141)) = some (r1, r2) := H
  have A4 := Aside0.mk A40
  clear A40
  simp only [Option.some.injEq, Prod.mk.injEq] at H
  obtain ⟨rfl, rfl⟩ := H
  go_enter Try.func18, Try.ntmps18
  go_wp2_with (first | ((with_reducible refine gate_callee (f := 49) rfl ?_); refine goesL_ (some 8) rfl rfl Try.func49 (by kernel_rfl) rfl #[.slice A0 l0.length c0] rfl (by (try simp only [List.map_toArray, List.map_cons, List.map_nil]); first | done | rfl | (simp only [List.length_drop, List.length_take]; rfl)) ?_; (with_reducible refine (trim_Roles.calls _ _ l0 t137 _ ?side1 ?side2 A3.out).mono ?_); (case side1 => repeat (first | exact HR0.out | (with_reducible refine Kd.C_alloc ?_ _) | (with_reducible refine Kd.C_drewN ?_ _) | (with_reducible refine Kd.C_drew ?_))); (case side2 => exact HC0.out); rintro e w5 ⟨v138, rfl, ho0, hb⟩; refine ⟨_, rfl, ?_⟩; have n0_ := Aside0.mk (Kd.R_lower ho0 (below_size (by repeat (first | (with_reducible first | exact HB.out | apply below_alloc | apply pw_below_drewN | apply below_drew1) | exact HB.out)))); have n1_ := Aside0.mk (below_step (by repeat (first | (with_reducible first | exact HB.out | apply below_alloc | apply pw_below_drewN | apply below_drew1) | exact HB.out)) hb); clear HB; have HO139 := n0_; have HB := n1_; clear n0_ n1_; (try clear hb); (try clear hb2); (try clear hk); (try clear hi); (try clear ho0); obtain ⟨Ao6, co6, eo6⟩ := Kd.R_slice HO139.out; subst eo6) | ((with_reducible refine gate_callee (f := 19) rfl ?_); refine goesL_ (some 10) rfl rfl Try.func19 (by kernel_rfl) rfl #[.slice A0 l0.length c0, .slice Ao6 t137.length co6, .int .i64 a1] rfl (by (try simp only [List.map_toArray, List.map_cons, List.map_nil]); first | done | rfl | (simp only [List.length_drop, List.length_take]; rfl)) ?_; (with_reducible refine (tabs_End.calls _ _ l0 _ _ t137 a1 t140 t141 _ ?side1 ?side2 ?side3 ?side4 A4.out).mono ?_); (case side1 => repeat (first | exact (Kd.C_below HR0.out HB.out) | (with_reducible refine Kd.C_alloc ?_ _) | (with_reducible refine Kd.C_drewN ?_ _) | (with_reducible refine Kd.C_drew ?_))); (case side2 => exact HC0.out); (case side3 => repeat (first | exact (Kd.R_reads' HO139.out).2.2 | (with_reducible refine Kd.C_alloc ?_ _) | (with_reducible refine Kd.C_drewN ?_ _) | (with_reducible refine Kd.C_drew ?_))); (case side4 => exact (Kd.R_reads' HO139.out).2.1); rintro e w7 ⟨rfl, hb⟩; refine ⟨_, rfl, ?_⟩; have n0_ := Aside0.mk (Kd.R_below (by (with_reducible repeat (first | apply Kd.R_alloc | apply Kd.R_drewN | apply Kd.R_drew)); exact HO139.out) hb); have n1_ := Aside0.mk (below_step (by repeat (first | (with_reducible first | exact HB.out | apply below_alloc | apply pw_below_drewN | apply below_drew1) | exact HB.out)) hb); clear HO139; clear HB; have HO139 := n0_; have HB := n1_; clear n0_ n1_; (try clear hb); (try clear hb2); (try clear hk); (try clear hi)))
  go_ret2
  exact ⟨by first | rfl | (simp [errW_none, errW_some] <;> rfl) | (simp [*, errW_none, errW_some] <;> rfl), by repeat (first | (with_reducible first | exact HB.out | apply below_alloc | apply pw_below_drewN | apply below_drew1) | exact HB.out)⟩

/-! ### stickfullaw13_row: function 48 -/
section
open Go.Proofs.Ytkcmehijmgjgfaa.It Go.Shelf
def mkRow (k : Int) : S25 := ⟨k, 0, 0, if 7 ≤ k then 2 else 5, false, false⟩
def stickfullaw13_row.f (l : List Int) : Option (List S25) := if l.length < 1000000000 then some (l.map mkRow) else none
set_option maxRecDepth 100000 in
set_option maxHeartbeats 2000000 in
theorem stickfullaw13_row.calls (A0 : Option Addr) (c0 : Nat) (l0 : List Int) (r : List S25) (w : World) (hr0 : Kd.C (Kd.int .u8) w A0 l0.length l0) (hc0 : l0.length ≤ c0) (h : stickfullaw13_row.f l0 = some r) :
    Calls Try.prog 48 #[.slice A0 l0.length c0] w fun e w' => ∃ v0_ : Value, e = .returned (v0_) ∧ Kd.R k25 25 w' w.heap.size (fun _ => True) v0_ r ∧ Below w.heap.size w w' := by
  have hh : l0.length < 1000000000 ∧ r = l0.map mkRow := by
    unfold stickfullaw13_row.f at h
    by_cases e : l0.length < 1000000000
    · rw [if_pos e] at h; exact ⟨e, (Option.some.inj h).symm⟩
    · rw [if_neg e] at h; cases h
  obtain ⟨hlen, hr⟩ := hh
  have HR := Aside0.mk hr
  have HC0 := Aside0.mk hr0
  clear h hr hr0
  go_enter Try.func48, Try.ntmps48
  go_wp2
  go_loopw [3, 4] (fun v i wr => ∃ (k : Nat), k ≤ l0.length ∧ i = .int .i64 k ∧ Aside0 (Kd.R k25 25 wr w.heap.size (fun _ => True) v ((l0.take k).map mkRow)) ∧ Aside0 (Below w.heap.size w wr))
    (fun _ i _ => l0.length - (intOf i).toNat)
  case atStart => exact ⟨0, by omega, rfl, ⟨Kd.R_nil _ _ _ _ _⟩, ⟨Below.refl _ _⟩⟩
  case round =>
    obtain ⟨k, hk, rfl, HRk, HBk⟩ := hrel
    by_cases hlt : k < l0.length
    · obtain ⟨ad, e, hx⟩ := Kd.at_int HC0.out (k : Int) (by omega) (by omega)
      cases e
      rw [Int.toNat_natCast] at hx
      replace hx := pw_cell_below HBk.out hx
      obtain ⟨x, ex⟩ : ∃ x, x = rd l0 k := ⟨_, rfl⟩
      rw [← ex] at hx
      have EX := Aside0.mk ex
      have hlk : ((l0.take k).map mkRow).length = k := by simp; omega
      have HLK := Aside0.mk hlk
      have hts : (l0.take (k + 1)).map mkRow = (l0.take k).map mkRow ++ [mkRow x] := by
        rw [List.take_succ_eq_append_getElem hlt, List.map_append, ex]
        simp [rd, List.getD_eq_getElem?_getD, List.getElem?_eq_getElem hlt]
      have HTS := Aside0.mk hts
      clear ex hlk hts
      by_cases h7 : 7 ≤ x
      · have z : decide (7 ≤ x) = true := by simpa using h7
        have hmk : mkRow x = ⟨x, 0, 0, 2, false, false⟩ := by unfold mkRow; rw [if_pos h7]
        have HMK := Aside0.mk hmk
        clear hmk h7
        go_wp2_with (at_builtin; refine Kd.R_append k25 (w0 := w) w.heap.size rfl (.tmp 21) (.tmp 23) 22 25 (.agg #[.int .u8 0, .int .i64 0, .int .i64 0, .int .i64 0, .bool false, .bool false]) 40 rfl Try.underlying22 info25 rfl (by decide) (by decide) u3 ((l0.take k).map mkRow) (⟨x, 0, 0, 2, false, false⟩ : S25) [.int .u8 x, .int .i64 0, .int .i64 0, .int .i64 2, .bool false, .bool false] (fun _ => True) (fun _ => False) rfl (by first | (go_simp; done) | (go_simp; rfl)) (k25_mkM _ _ _ (⟨x, 0, 0, 2, false, false⟩ : S25)) (fun _ hk => hk.elim) (fun _ _ => trivial) (Kd.R_alloc HRk.out _) (below_alloc HBk.out _) (by have := below_size HBk.out; simp; omega) (by rw [HLK.out]; omega) ?_; intro v1 w1 hR1 hB1 _ _; have HR1 := Aside0.mk hR1; have HB1 := Aside0.mk hB1; clear hR1 hB1)
        go_roundw
        case rel => exact ⟨k + 1, by omega, by go_num, ⟨by rw [HTS.out, HMK.out]; exact HR1.out⟩, HB1⟩
        case measure => simp [intOf]; omega
      · have z : decide (7 ≤ x) = false := by simpa using h7
        have hmk : mkRow x = ⟨x, 0, 0, 5, false, false⟩ := by unfold mkRow; rw [if_neg h7]
        have HMK := Aside0.mk hmk
        clear hmk h7
        go_wp2_with (at_builtin; refine Kd.R_append k25 (w0 := w) w.heap.size rfl (.tmp 21) (.tmp 23) 22 25 (.agg #[.int .u8 0, .int .i64 0, .int .i64 0, .int .i64 0, .bool false, .bool false]) 40 rfl Try.underlying22 info25 rfl (by decide) (by decide) u3 ((l0.take k).map mkRow) (⟨x, 0, 0, 5, false, false⟩ : S25) [.int .u8 x, .int .i64 0, .int .i64 0, .int .i64 5, .bool false, .bool false] (fun _ => True) (fun _ => False) rfl (by first | (go_simp; done) | (go_simp; rfl)) (k25_mkM _ _ _ (⟨x, 0, 0, 5, false, false⟩ : S25)) (fun _ hk => hk.elim) (fun _ _ => trivial) (Kd.R_alloc HRk.out _) (below_alloc HBk.out _) (by have := below_size HBk.out; simp; omega) (by rw [HLK.out]; omega) ?_; intro v1 w1 hR1 hB1 _ _; have HR1 := Aside0.mk hR1; have HB1 := Aside0.mk hB1; clear hR1 hB1)
        go_roundw
        case rel => exact ⟨k + 1, by omega, by go_num, ⟨by rw [HTS.out, HMK.out]; exact HR1.out⟩, HB1⟩
        case measure => simp [intOf]; omega
    · obtain rfl : k = l0.length := by omega
      have HT := Aside0.mk (show (l0.take l0.length).map mkRow = l0.map mkRow by rw [List.take_length])
      go_wp2
      go_ret
      exact ⟨_, rfl, by rw [HR.out, ← HT.out]; exact HRk.out, HBk.out⟩
end

/-! ### stickfulref13_Same: function 82 -/
def stickfulref13_Same.l0 : Nat → List Int → List Int → Int → Option (Bool)
  | 0, _, _, _ => none
  | k + 1, x0, x1, x5 => if x5 < (x0.length : Int) then (if 0 ≤ x5 then (if x5 < (x1.length : Int) then (if (rd x0 x5) = (rd x1 x5) then (stickfulref13_Same.l0 k x0 x1 (wrap64 (x5 + 1))) else (some false)) else (none)) else (none)) else (some true)
def stickfulref13_Same.f (k : Nat) (l0 : List Int) (l1 : List Int) : Option (Bool) := if (l0.length : Int) = (l1.length : Int) then (stickfulref13_Same.l0 k l0 l1 0) else (some false)
theorem stickfulref13_Same.mono_l : ∀ k, (∀ y0 y1 y2, LeO (stickfulref13_Same.l0 k y0 y1 y2) (stickfulref13_Same.l0 (k + 1) y0 y1 y2))
  | 0 => fun _ _ _ r h => by simp [stickfulref13_Same.l0] at h
  | k + 1 => by
    have ih0 := stickfulref13_Same.mono_l k
    · intro y0 y1 y2
      unfold stickfulref13_Same.l0
      repeat' first
      | (with_reducible exact ih0 _ _ _)
      | (with_reducible exact LeO.refl _)
      | (with_reducible exact LeO.none _)
      | (with_reducible refine LeO.ite ?_ ?_)
      | (with_reducible refine LeO.bind ?_ (fun _ => ?_))
      | exact ih0 _ _ _
      | exact LeO.none _
      | refine LeO.ite ?_ ?_
      | refine LeO.bind ?_ (fun _ => ?_)
theorem stickfulref13_Same.mono : ∀ a0 a1 k, LeO (stickfulref13_Same.f k a0 a1) (stickfulref13_Same.f (k + 1) a0 a1) := by
  intro a0 a1 k
  have ih0 := stickfulref13_Same.mono_l k
  unfold stickfulref13_Same.f
  repeat' first
      | (with_reducible exact ih0 _ _ _)
      | (with_reducible exact LeO.refl _)
      | (with_reducible exact LeO.none _)
      | (with_reducible refine LeO.ite ?_ ?_)
      | (with_reducible refine LeO.bind ?_ (fun _ => ?_))
      | exact ih0 _ _ _
      | exact LeO.none _
      | refine LeO.ite ?_ ?_
      | refine LeO.bind ?_ (fun _ => ?_)
set_option maxHeartbeats 8000000 in
set_option maxRecDepth 100000 in
theorem stickfulref13_Same.calls (k : Nat) (A0 : Option Addr) (c0 : Nat) (l0 : List Int) (A1 : Option Addr) (c1 : Nat) (l1 : List Int) (r : Bool) (w : World) (hr0 : Kd.C (Kd.int .u8) w A0 l0.length l0) (hc0 : l0.length ≤ c0) (hr1 : Kd.C (Kd.int .u8) w A1 l1.length l1) (hc1 : l1.length ≤ c1) (h : stickfulref13_Same.f k l0 l1 = some r) :
    Calls Try.prog 82 #[.slice A0 l0.length c0, .slice A1 l1.length c1] w fun e w' => e = .returned (.bool r) ∧ Drawn0 w w' := by
  have HR0 := Aside0.mk hr0
  have HC0 := Aside0.mk hc0
  clear hr0 hc0
  have HR1 := Aside0.mk hr1
  have HC1 := Aside0.mk hc1
  clear hr1 hc1
  have H : (if (l0.length : Int) = (l1.length : Int) then (stickfulref13_Same.l0 k l0 l1 0) else (some false)) = some r := h
  clear h
  by_cases c3 : (l0.length : Int) = (l1.length : Int)
  · rw [if_pos c3] at H
    have c3b0 : ((l0.length : Int) == (l1.length : Int)) = true := beq_iff_eq.mpr c3
    have c3b1 : ((l0.length : Int) != (l1.length : Int)) = false := bne_eq_false_iff_eq.mpr c3
    have c3b2 : (l0.length == l1.length) = true := by first | simpa using c3 | (simp at c3 ⊢; omega)
    clear c3
    have H' := Aside0.mk H
    clear H
    go_enter Try.func82, Try.ntmps82
    go_wp2
    repeat (go_quiet (fail); try go_wp2)
    go_loopg [5] k (fun kq v5 w' => ∃ (x5_1 : Int), v5 = .int .i64 x5_1 ∧ Aside0 (stickfulref13_Same.l0 kq l0 l1 x5_1 = some r) ∧ Aside0 (kq ≤ k) ∧ Drawn0 w w')
    case atStart => exact ⟨(0), (by first | rfl | (simp; done) | (simp [*]; done)), H', ⟨Nat.le_refl _⟩, by repeat (first | exact Drawn0.refl _ | apply Drawn0.step)⟩
    case round =>
      clear H'
      try clear c1
      try clear p2
      try clear c3
      try clear c3b0
      try clear c3b1
      try clear c3b2
      obtain ⟨x5_1, rfl, HA, HK1, ⟨m1, rfl⟩⟩ := hrel
      cases gk with
      | zero => exact absurd HA.out (by simp [stickfulref13_Same.l0])
      | succ k1 =>
        have H := HA.out
        clear HA
        simp only [stickfulref13_Same.l0] at H
        by_cases c4 : x5_1 < (l0.length : Int)
        · rw [if_pos c4] at H
          have c4b0 : decide (x5_1 < (l0.length : Int)) = true := decide_eq_true c4
          clear c4
          by_cases c5 : 0 ≤ x5_1
          · rw [if_pos c5] at H
            have c5b0 : decide (0 ≤ x5_1) = true := decide_eq_true c5
            clear c5
            by_cases c6 : x5_1 < (l1.length : Int)
            · rw [if_pos c6] at H
              have c6b0 : decide (x5_1 < (l1.length : Int)) = true := decide_eq_true c6
              clear c6
              by_cases c7 : (rd l0 x5_1) = (rd l1 x5_1)
              · rw [if_pos c7] at H
                have c7b0 : ((rd l0 x5_1) == (rd l1 x5_1)) = true := beq_iff_eq.mpr c7
                have c7b1 : ((rd l0 x5_1) != (rd l1 x5_1)) = false := bne_eq_false_iff_eq.mpr c7
                clear c7
                have H' := Aside0.mk H
                clear H
                have p142 : 0 ≤ (x5_1 : Int) := of_decide_eq_true (by first | (with_reducible assumption) | assumption)
                have q142 : x5_1 < (l0.length : Int) := of_decide_eq_true (by first | (with_reducible assumption) | assumption)
                obtain ⟨ad142, e142, hx142_0⟩ := Kd.at_int HR0.out x5_1 p142 q142
                cases e142
                replace p142 := eq_true p142
                replace q142 := eq_true q142
                have p143 : 0 ≤ (x5_1 : Int) := of_decide_eq_true (by first | (with_reducible assumption) | assumption)
                have q143 : x5_1 < (l1.length : Int) := of_decide_eq_true (by first | (with_reducible assumption) | assumption)
                obtain ⟨ad143, e143, hx143_0⟩ := Kd.at_int HR1.out x5_1 p143 q143
                cases e143
                replace p143 := eq_true p143
                replace q143 := eq_true q143
                go_wp2
                repeat (go_quiet (fail); try go_wp2)
                go_roundg k1
                case measure => have := HK1.out; omega
                case rel => exact ⟨(wrap64 (x5_1 + 1)), (by first | rfl | (simp; done) | (simp [*]; done)), H', ⟨by have := HK1.out; omega⟩, by repeat (first | exact Drawn0.refl _ | apply Drawn0.step)⟩
              · rw [if_neg c7] at H
                have c7b0 : ((rd l0 x5_1) == (rd l1 x5_1)) = false := beq_eq_false_iff_ne.mpr c7
                have c7b1 : ((rd l0 x5_1) != (rd l1 x5_1)) = true := bne_iff_ne.mpr c7
                obtain rfl := Option.some.inj H
                have p142 : 0 ≤ (x5_1 : Int) := of_decide_eq_true (by first | (with_reducible assumption) | assumption)
                have q142 : x5_1 < (l0.length : Int) := of_decide_eq_true (by first | (with_reducible assumption) | assumption)
                obtain ⟨ad142, e142, hx142_0⟩ := Kd.at_int HR0.out x5_1 p142 q142
                cases e142
                replace p142 := eq_true p142
                replace q142 := eq_true q142
                have p143 : 0 ≤ (x5_1 : Int) := of_decide_eq_true (by first | (with_reducible assumption) | assumption)
                have q143 : x5_1 < (l1.length : Int) := of_decide_eq_true (by first | (with_reducible assumption) | assumption)
                obtain ⟨ad143, e143, hx143_0⟩ := Kd.at_int HR1.out x5_1 p143 q143
                cases e143
                replace p143 := eq_true p143
                replace q143 := eq_true q143
                go_wp2
                repeat (go_quiet (fail); try go_wp2)
                go_ret
                exact ⟨by first | rfl | (simp; done) | (simp [*]; done), by repeat (first | exact Drawn0.refl _ | apply Drawn0.step)⟩
            · rw [if_neg c6] at H
              exact absurd H (by simp)
          · rw [if_neg c5] at H
            exact absurd H (by simp)
        · rw [if_neg c4] at H
          have c4b0 : decide (x5_1 < (l0.length : Int)) = false := decide_eq_false c4
          clear c4
          obtain rfl := Option.some.inj H
          go_wp2
          repeat (go_quiet (fail); try go_wp2)
          go_ret
          exact ⟨by first | rfl | (simp; done) | (simp [*]; done), by repeat (first | exact Drawn0.refl _ | apply Drawn0.step)⟩
  · rw [if_neg c3] at H
    have c3b0 : ((l0.length : Int) == (l1.length : Int)) = false := beq_eq_false_iff_ne.mpr c3
    have c3b1 : ((l0.length : Int) != (l1.length : Int)) = true := bne_iff_ne.mpr c3
    have c3b2 : (l0.length == l1.length) = false := by first | simpa using c3 | (simp at c3 ⊢; omega)
    obtain rfl := Option.some.inj H
    go_enter Try.func82, Try.ntmps82
    go_wp2
    repeat (go_quiet (fail); try go_wp2)
    go_ret
    exact ⟨by first | rfl | (simp; done) | (simp [*]; done), by repeat (first | exact Drawn0.refl _ | apply Drawn0.step)⟩

end Go.Proofs.Ytkcmehijmgjgfaa.MTrimBounds
