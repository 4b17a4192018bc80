-- Written by a program of this session for this claim.
import Derived.Test.YtkcmehijmgjgfaaMFillForcedx0
import Derived.Test.YtkcmehijmgjgfaaMFillForcedx2
namespace Go.Proofs.Ytkcmehijmgjgfaa.MFillForced
open Go.RowKit Go.Proofs.YtkcmehijmgjgfaaW.PrintWords Go.Proofs.YtkcmehijmgjgfaaW.PrintLast Go.Proofs.YtkcmehijmgjgfaaW.PrintMore
attribute [local go_sem] max2_int min2_int max_two min_two max_three min_three max_four min_four   -- for this text's walks alone
set_option linter.unusedVariables false
set_option linter.unusedSimpArgs false

attribute [local irreducible] Go.wpStill Go.wpQuiet
/-! ### tabs_Pens: function 50 -/
-- needs func tabs.Step tabs.role
section
open Go.Proofs.Ytkcmehijmgjgfaa.It Go.Shelf
attribute [local go_sem] Oper.semAt_some
def penStep (roles : List Int) (i : Nat) (c : S25) (x : Int) : Option (Int × Int) :=
  (tabs_role.f roles i).bind fun r => if r = 1 then some (x, 0) else tabs_Step.f 1 c.f0 c.f1 c.f2 c.f3 c.f4 c.f5 x
def pensO (roles : List Int) : Nat → Int → List S25 → Option (List (Int × Int))
  | _, _, [] => some []
  | i, x, c :: l => (penStep roles i c x).bind fun p => if p.2 = 0 then (pensO roles (i + 1) p.1 l).map (p :: ·) else some [p]
def encPen (p : Int × Int) : Array Value := #[.int .i64 p.1, .int .i64 p.2]

theorem pensO_step {roles : List Int} {k : Nat} {y : Int} {c : S25} {l : List S25} {ps : List (Int × Int)} (h : pensO roles k y (c :: l) = some ps) :
    ∃ (r : Int) (p : Int × Int), tabs_role.f roles k = some r ∧ ((r = 1 ∧ p = (y, 0)) ∨ (r ≠ 1 ∧ tabs_Step.f 1 c.f0 c.f1 c.f2 c.f3 c.f4 c.f5 y = some p)) ∧
      ((p.2 = 0 ∧ ∃ rest, pensO roles (k + 1) p.1 l = some rest ∧ ps = p :: rest) ∨ (p.2 ≠ 0 ∧ ps = [p])) := by
  rw [pensO] at h
  obtain ⟨p, h1, h2⟩ := Option.bind_eq_some_iff.1 h
  unfold penStep at h1
  obtain ⟨r, h3, h4⟩ := Option.bind_eq_some_iff.1 h1
  refine ⟨r, p, h3, ?_, ?_⟩
  · by_cases e : r = 1
    · rw [if_pos e] at h4; exact .inl ⟨e, (Option.some.inj h4).symm⟩
    · rw [if_neg e] at h4; exact .inr ⟨e, h4⟩
  · by_cases e : p.2 = 0
    · rw [if_pos e] at h2
      obtain ⟨rest, h5, h6⟩ := Option.map_eq_some_iff.1 h2
      exact .inl ⟨e, rest, h5, h6.symm⟩
    · rw [if_neg e] at h2; exact .inr ⟨e, (Option.some.inj h2).symm⟩
set_option maxRecDepth 100000 in
set_option maxHeartbeats 2000000 in
theorem pens_seq (m : Nat) (w0 w : World) (hb : Below w0.heap.size w0 w) (A0 A1 : Option Addr) (c0 c1 : Nat) (l0 : List S25) (l1 : List Int) (x : Int)
    (hC0 : Kd.C k25 w0 A0 l0.length l0) (hC1 : Kd.C (Kd.int .u8) w0 A1 l1.length l1) (hc1 : l1.length ≤ c1) (bx bl br : Nat)
    (hx : w.heap[bx]? = some (.cells #[.int .i64 x] 2 (0, 0))) (hl : w.heap[bl]? = some (.cells #[.slice A0 l0.length c0] 22 (0, 0))) (hr : w.heap[br]? = some (.cells #[.slice A1 l1.length c1] 88 (0, 0)))
    (Oc : Nat → Prop) (hOx : ¬ Oc bx) (hOl : ¬ Oc bl) (hOr : ¬ Oc br) (hO : ∀ i, i < w0.heap.size → ¬ Oc i) (ps : List (Int × Int)) (hps : pensO l1 0 x l0 = some ps) (hlen : l0.length < 4611686018427387904) :
    Seq (m + 1) Try.prog 108 #[.pointer (some ⟨bx, 0, none⟩), .pointer (some ⟨bl, 0, none⟩), .pointer (some ⟨br, 0, none⟩)] (ps.map encPen) (fun _ => False) Oc w := by
  intro l J Jx W hW hJ hJx hY h0
  have HPS := Aside0.mk hps
  have HC0 := Aside0.mk hC0
  have HC1 := Aside0.mk hC1
  clear hps hC0 hC1
  have hxW := Boxed.cell (hW.heap hx hOx)
  have hlW := Boxed.cell (hW.heap hl hOl)
  refine callsIn_of_wp Try.func108 rfl trivial ?_ rfl
  simp only [Try.ntmps108, List.size_toArray, List.length_cons, List.length_nil, Nat.reduceAdd, Nat.reduceSub, Array.replicate_succ, Array.replicate_zero, List.push_toArray, List.append_toArray, List.nil_append, List.cons_append]
  gi_wp2
  gi_loopw [5, 6, 12] (fun a e i wr => ∃ (k : Nat) (y : Int), k ≤ l0.length ∧ i = .int .i64 k ∧ a = .int .i64 y ∧ e = .int .i64 0 ∧ J k wr ∧ Aside0 (Lv Oc W wr) ∧ Aside0 (k ≤ ps.length ∧ pensO l1 k y (l0.drop k) = some (ps.drop k)))
    (fun _ _ i _ => l0.length - (intOf i).toNat)
  case atStart => exact ⟨0, x, by omega, rfl, rfl, rfl, h0, ⟨Lv.refl _ _⟩, ⟨Nat.zero_le _, HPS.out⟩⟩
  case round =>
    obtain ⟨k, y, hk, rfl, rfl, rfl, hJs, HLV, HK⟩ := hrel
    clear hxW hlW
    by_cases hlt : k < l0.length
    · have hBw : Below w0.heap.size w0 wr := hb.trans ((hW.trans HLV.out).below hb.size hO)
      obtain ⟨ad, e, d0, d1, d2, d3, d4, d5⟩ := at_T25 HC0.out (k : Int) (by omega) (by omega)
      cases e
      have ec : rd_T25 l0 (k : Int) = l0[k] := by unfold rd_T25; rw [Int.toNat_natCast, List.getD_eq_getElem?_getD, List.getElem?_eq_getElem hlt]; rfl
      rw [ec] at d0 d1 d2 d3 d4 d5
      obtain ⟨c, hc⟩ : ∃ c, c = l0[k] := ⟨_, rfl⟩
      rw [← hc] at d0 d1 d2 d3 d4 d5
      have HCk := Aside0.mk hc
      clear hc ec
      rw [Int.toNat_natCast] at d0 d1 d2 d3 d4 d5
      replace d0 := pw_cell_below hBw d0
      replace d1 := pw_cell_below hBw d1
      replace d2 := pw_cell_below hBw d2
      replace d3 := pw_cell_below hBw d3
      replace d4 := pw_cell_below hBw d4
      replace d5 := pw_cell_below hBw d5
      have hrB := (hW.trans HLV.out).heap hr hOr
      have hrW := Boxed.cell hrB
      have hrL : br < wr.heap.size := Boxed.lt hrB
      clear hBw hrB
      obtain ⟨hkp, hpo⟩ := HK.out
      rw [List.drop_eq_getElem_cons hlt, ← HCk.out] at hpo
      obtain ⟨r, p, hrole, hstep, hnext⟩ := pensO_step hpo
      have HST := Aside0.mk hstep
      have HNX := Aside0.mk hnext
      have HRO := Aside0.mk hrole
      clear hstep hnext hrole hpo
      obtain ⟨q, hq⟩ : ∃ q, ps.drop k = p :: q := by
        rcases HNX.out with ⟨_, rest, _, h⟩ | ⟨_, h⟩
        · exact ⟨_, h⟩
        · exact ⟨_, h⟩
      have HQ := Aside0.mk hq
      clear hq
      gi_wp2_with fail
      refine ⟨trivial, (callsIn_wide.2 (tabs_role.calls A1 c1 l1 k r _ (Kd.C_alloc (Kd.C_below HC1.out ((hb.trans ((hW.trans HLV.out).below hb.size hO)))) _) hc1 HRO.out)).mono ?_⟩
      rintro e w1 ⟨rfl, hd⟩
      obtain ⟨n1, rfl⟩ := hd.out
      have hLa : Lv Oc W ((wr.alloc (Obj.cells #[Value.int IntKind.u8 c.f0, Value.int IntKind.i64 c.f1, Value.int IntKind.i64 c.f2, Value.int IntKind.i64 c.f3, Value.bool c.f4, Value.bool c.f5] 25)).drewN n1) := (HLV.out.trans (Lv.alloc _ _ _)).trans (Lv.drewN _ _ _)
      have HLa := Aside0.mk hLa
      clear hLa
      have hJa : J k ((wr.alloc (Obj.cells #[Value.int IntKind.u8 c.f0, Value.int IntKind.i64 c.f1, Value.int IntKind.i64 c.f2, Value.int IntKind.i64 c.f3, Value.bool c.f4, Value.bool c.f5] 25)).drewN n1) := hJ _ _ _ hJs ((Lv.alloc _ _ _).trans (Lv.drewN _ _ _))
      rcases HST.out with ⟨rfl, hp⟩ | ⟨hr1, hst⟩
      · subst hp
        obtain ⟨fn, tm, asg, bd, hy, hR⟩ := yieldAt_of hY HQ.out _ hJa
        unfold encPen at hy
        dsimp only at hy
        have z : ((1 : Int) != 1) = false := rfl
        gi_wp2_with fail
        refine hR.mono ?_
        rintro e W3 (⟨rfl, hJ3, hk3⟩ | ⟨rfl, hJx3, hk3⟩)
        · obtain ⟨hkl, hpk, hdr⟩ := drop_at HQ.out
          have hnx : k + 1 ≤ ps.length ∧ pensO l1 (k + 1) y (l0.drop (k + 1)) = some (ps.drop (k + 1)) := by
            refine ⟨hkl, ?_⟩
            rcases HNX.out with ⟨_, rest, h1, h2⟩ | ⟨h1, _⟩
            · rw [h1]; rw [HQ.out] at h2; cases h2; rw [hdr]
            · exact absurd rfl h1
          have HN := Aside0.mk hnx
          have HL := Aside0.mk (HLa.out.trans hk3)
          clear hnx hkl hpk hdr hk3
          gi_wp2
          go_roundw
          case rel => exact ⟨k + 1, y, by omega, by go_num, rfl, rfl, hJ3, HL, HN⟩
          case measure => simp [intOf]; omega
        · obtain ⟨hkl, hpk, hdr⟩ := drop_at HQ.out
          have HN := Aside0.mk hkl
          clear hkl hpk hdr hk3
          gi_wp2
          refine bodyPost_ret (results_none rfl _ _ _) rfl ?_
          exact ⟨⟨_, rfl⟩, .inr ⟨k + 1, by rw [List.length_map]; exact HN.out, hJx3⟩⟩
      · have z : (r != 1) = true := by rw [bne_iff_ne]; exact hr1
        have HST2 := Aside0.mk hst
        clear hst hr1
        gi_wp2_with fail
        refine ⟨trivial, (callsIn_wide.2 (tabs_Step.calls 1 c.f0 c.f1 c.f2 c.f3 c.f4 c.f5 y p.1 p.2 _ HST2.out)).mono ?_⟩
        rintro e w2 ⟨rfl, hb2⟩
        have HLb := Aside0.mk (HLa.out.trans (Lv.of_below hb2))
        have hJb : J k w2 := hJ _ _ _ hJa (Lv.of_below hb2)
        clear hJa hb2
        obtain ⟨fn, tm, asg, bd, hy, hR⟩ := yieldAt_of hY HQ.out _ hJb
        unfold encPen at hy
        gi_wp2_with fail
        refine hR.mono ?_
        rintro e W3 (⟨rfl, hJ3, hk3⟩ | ⟨rfl, hJx3, hk3⟩)
        · obtain ⟨hkl, hpk, hdr⟩ := drop_at HQ.out
          have HL := Aside0.mk (HLb.out.trans hk3)
          clear hk3
          rcases HNX.out with ⟨hp2, rest, h1, h2⟩ | ⟨hp2, h2⟩
          · have hnx : k + 1 ≤ ps.length ∧ pensO l1 (k + 1) p.1 (l0.drop (k + 1)) = some (ps.drop (k + 1)) := by
              refine ⟨hkl, ?_⟩
              rw [h1]; rw [HQ.out] at h2; cases h2; rw [hdr]
            have HN := Aside0.mk hnx
            have z2 : (p.2 != 0) = false := by rw [bne_eq_false_iff_eq]; exact hp2
            have HP2 := Aside0.mk hp2
            clear hnx hkl hpk hdr h1 h2 hp2
            gi_wp2
            go_roundw
            case rel => exact ⟨k + 1, p.1, by omega, by go_num, rfl, by rw [HP2.out], hJ3, HL, HN⟩
            case measure => simp [intOf]; omega
          · have hend : ps.length = k + 1 := by
              have h3 := congrArg List.length h2
              simp at h3
              omega
            have HE := Aside0.mk hend
            have z2 : (p.2 != 0) = true := by rw [bne_iff_ne]; exact hp2
            clear hend hkl hpk hdr h2 hp2
            gi_wp2
            refine bodyPost_ret (results_none rfl _ _ _) rfl ?_
            exact ⟨⟨_, rfl⟩, .inl (by rw [List.length_map, HE.out]; exact hJ3)⟩
        · obtain ⟨hkl, hpk, hdr⟩ := drop_at HQ.out
          have HN := Aside0.mk hkl
          clear hkl hpk hdr hk3
          gi_wp2
          refine bodyPost_ret (results_none rfl _ _ _) rfl ?_
          exact ⟨⟨_, rfl⟩, .inr ⟨k + 1, by rw [List.length_map]; exact HN.out, hJx3⟩⟩
    · obtain rfl : k = l0.length := by omega
      have hend : ps.length = l0.length := by
        have h := HK.out
        rw [List.drop_length, pensO] at h
        have h2 := congrArg List.length (Option.some.inj h.2)
        simp at h2
        omega
      have HE := Aside0.mk hend
      clear hend
      gi_wp2
      go_end0
      exact ⟨⟨_, rfl⟩, .inl (by rw [List.length_map, HE.out]; exact hJs)⟩

theorem infoI : (Try.prog.info? 2).map (fun i => (i.zero, i.size, i.bytes)) = some (some (.int .i64 0), 1, 8) := by kernel_rfl
def badTab (c : S25) : Bool := c.f0 == 4 && decide (c.f3 < 0)
def tabs_Pens.f (l : List S25) (roles : List Int) (x : Int) : Option (List Int × Int) :=
  if l.length < 4398046511104 then
    if l.any badTab then some ([], 2) else
    (unit_Sum.f [x]).bind fun s => if s.2 ≠ 0 then some ([], s.2) else
    (pensO roles 0 x l).map fun ps => if ps.any (fun p => p.2 != 0) then ([], (ps.getLast?.getD (0, 0)).2) else (x :: ps.map (·.1), 0)
  else none

theorem pens_calls (A0 A1 : Option Addr) (c0 c1 n0 n1 : Nat) (x : Int) (w : World) :
    Calls Try.prog 88 #[.slice A0 n0 c0, .slice A1 n1 c1, .int .i64 x] w fun e w' =>
      e = .returned (.func (.func 108) #[] #[.pointer (some ⟨w.heap.size + 2, 0, none⟩), .pointer (some ⟨w.heap.size, 0, none⟩), .pointer (some ⟨w.heap.size + 1, 0, none⟩)]) ∧
      w' = ((w.alloc (.cells #[.slice A0 n0 c0] 22)).alloc (.cells #[.slice A1 n1 c1] 88)).alloc (.cells #[.int .i64 x] 2) := by
  go_enter Try.func88, Try.ntmps88
  go_wp2
  go_ret
  exact ⟨rfl, rfl⟩

structure PensI (w : World) (r D : Nat) (a2 : Int) (ps : List (Int × Int)) (k : Nat) (W : World) : Prop where
  coll : Coll w.heap.size (r + 1 + 1) 91 2 (fun g => g = r + 1 ∨ D + 2 ≤ g) (Value.int .i64) (a2 :: (ps.take k).map (·.1)) W
  b6 : Boxed W w.heap.size 91 (.slice none 0 0)
  b7 : Boxed W (w.heap.size + 1) 26 (.int .i64 0)
  z : (ps.take k).any (fun p => p.2 != 0) = false
  below : Below w.heap.size w W
structure PensX (w : World) (ps : List (Int × Int)) (c : Code) (k : Nat) (W : World) : Prop where
  c : c = .ret
  p : ∃ p, ps[k - 1]? = some p ∧ 0 < k ∧ p.2 ≠ 0 ∧ Boxed W w.heap.size 91 (.slice none 0 0) ∧ Boxed W (w.heap.size + 1) 26 (.int .i64 p.2)
  below : Below w.heap.size w W
theorem pensO_length : ∀ {l : List S25} {roles : List Int} {i : Nat} {x : Int} {ps : List (Int × Int)}, pensO roles i x l = some ps → ps.length ≤ l.length
  | [], _, _, _, _, h => by rw [pensO] at h; cases h; simp
  | c :: l, _, _, _, _, h => by
    obtain ⟨_, p, _, _, h2⟩ := pensO_step h
    rcases h2 with ⟨_, rest, h3, rfl⟩ | ⟨_, rfl⟩
    · have := pensO_length h3
      simp; omega
    · simp

theorem pensO_last : ∀ {l : List S25} {roles : List Int} {i : Nat} {x : Int} {ps : List (Int × Int)} {j : Nat} {p : Int × Int}, pensO roles i x l = some ps → ps[j]? = some p → p.2 ≠ 0 → ps.getLast?.getD (0, 0) = p
  | [], _, _, _, _, _, _, h, hj, _ => by rw [pensO] at h; cases h; simp at hj
  | c :: l, _, _, _, _, j, p, h, hj, hp => by
    obtain ⟨_, q, _, _, h2⟩ := pensO_step h
    rcases h2 with ⟨hq, rest, h3, rfl⟩ | ⟨_, rfl⟩
    · cases j with
      | zero => simp at hj; subst hj; exact absurd hq hp
      | succ j =>
        have h4 := pensO_last h3 (j := j) (by simpa using hj) hp
        cases rest with
        | nil => simp at hj
        | cons a b => rw [List.getLast?_cons_cons]; exact h4
    · cases j with
      | zero => simp at hj; subst hj; rfl
      | succ j => simp at hj

set_option maxRecDepth 100000 in
set_option maxHeartbeats 4000000 in
theorem tabs_Pens.calls (A0 : Option Addr) (c0 : Nat) (l0 : List S25) (A1 : Option Addr) (c1 : Nat) (l1 : List Int) (a2 : Int) (r1 : List Int) (r2 : Int) (w : World) (hr0 : Kd.C k25 w A0 l0.length l0) (hc0 : l0.length ≤ c0) (hr1 : Kd.C (Kd.int .u8) w A1 l1.length l1) (hc1 : l1.length ≤ c1) (h : tabs_Pens.f l0 l1 a2 = some (r1, r2)) :
    Calls Try.prog 50 #[.slice A0 l0.length c0, .slice A1 l1.length c1, .int .i64 a2] w fun e w' => ∃ v0_ : Value, e = .returned (.tuple #[v0_, .int .i64 r2]) ∧ Kd.R (Kd.int .i64) 2 w' w.heap.size (fun _ => True) v0_ r1 ∧ Below w.heap.size w w' := by
  have H := Aside0.mk h
  have HC0 := Aside0.mk hr0
  have HC1 := Aside0.mk hr1
  clear h hr0 hr1
  have hlen : l0.length < 4398046511104 := by
    have h := H.out
    unfold tabs_Pens.f at h
    by_cases e : l0.length < 4398046511104
    · exact e
    · rw [if_neg e] at h; cases h
  refine (callsIn_wide (n := 7)).1 (callsIn_of_wp_marks Try.func50 rfl trivial ?_ rfl)
  refine wpIn_wide.2 ?_
  simp only [Try.ntmps50, List.size_toArray, List.length_cons, List.length_nil, Nat.reduceAdd, Nat.reduceSub, Array.replicate_succ, Array.replicate_zero, List.push_toArray, List.append_toArray, List.nil_append, List.cons_append]
  go_wp2
  go_loopw [17] (fun i wr => ∃ (k : Nat), k ≤ l0.length ∧ i = .int .i64 k ∧ Aside0 ((l0.take k).any badTab = false) ∧ Aside0 (Below w.heap.size w wr) ∧ Aside0 (Boxed wr w.heap.size 91 (.slice none 0 0)) ∧ Aside0 (Boxed wr (w.heap.size + 1) 26 (.int .i64 0)))
    (fun i _ => l0.length - (intOf i).toNat)
  case atStart => exact ⟨0, by omega, rfl, ⟨rfl⟩, ⟨((Below.refl _ w).alloc (Nat.le_refl _) _).alloc (by simp) _⟩, ⟨(boxed_at rfl).alloc _⟩, ⟨boxed_at (by simp)⟩⟩
  case round =>
    obtain ⟨k, hk, rfl, HT, HB, HB6, HB7⟩ := hrel
    by_cases hlt : k < l0.length
    · obtain ⟨ad, e, d0, d1, d2, d3, d4, d5⟩ := at_T25 HC0.out (k : Int) (by omega) (by omega)
      cases e
      have ec : rd_T25 l0 (k : Int) = l0[k] := by unfold rd_T25; rw [Int.toNat_natCast, List.getD_eq_getElem?_getD, List.getElem?_eq_getElem hlt]; rfl
      rw [ec] at d0 d1 d2 d3 d4 d5
      obtain ⟨c, hc⟩ : ∃ c, c = l0[k] := ⟨_, rfl⟩
      rw [← hc] at d0 d1 d2 d3 d4 d5
      have HCk := Aside0.mk hc
      clear hc ec
      rw [Int.toNat_natCast] at d0 d1 d2 d3 d4 d5
      replace d0 := pw_cell_below HB.out d0
      replace d1 := pw_cell_below HB.out d1
      replace d2 := pw_cell_below HB.out d2
      replace d3 := pw_cell_below HB.out d3
      replace d4 := pw_cell_below HB.out d4
      replace d5 := pw_cell_below HB.out d5
      have hz : w.heap.size + 1 < wr.heap.size := Boxed.lt HB7.out
      have hz0 : w.heap.size < wr.heap.size := by omega
      have HN : ∀ b : Bool, badTab c = b → Aside0 (badTab c = b ∧ (l0.take (k + 1)).any badTab = b) := fun b e => ⟨e, by rw [List.take_succ_eq_append_getElem hlt, List.any_append, HT.out, ← HCk.out]; simp [e]⟩
      by_cases hb : badTab c = true
      · have HX := HN _ hb
        have e1 : (c.f0 == 4) = true := by unfold badTab at hb; revert hb; cases (c.f0 == 4) <;> simp
        have e2 : decide (c.f3 < 0) = true := by unfold badTab at hb; rw [e1] at hb; simpa using hb
        clear HN hb
        have g6 := HB6.out.cell
        have g7 := HB7.out.cell
        have f6 := HB6.out.frozen
        have f7 := HB7.out.frozen
        have hr : r1 = [] ∧ r2 = 2 := by
          have h := H.out
          unfold tabs_Pens.f at h
          rw [if_pos hlen, if_pos (List.any_eq_true.2 ⟨c, by rw [HCk.out]; exact List.getElem_mem hlt, HX.out.1⟩)] at h
          have := Option.some.inj h
          exact ⟨(Prod.mk.inj this).1.symm, (Prod.mk.inj this).2.symm⟩
        have HR := Aside0.mk hr
        clear hr
        go_wp2
        have k6 := fun o => (((HB6.out.set (.slice none 0 0)).other (B' := w.heap.size + 1) (by omega) (.int .i64 2)).alloc o).cell
        have k7 := fun o => (((HB7.out.other (B' := w.heap.size) (by omega) (.slice none 0 0)).set (.int .i64 2)).alloc o).cell
        refine ⟨.tuple #[.slice none 0 0, .int .i64 2], by simp [results, Try.f50, go_sem, k6, k7], _, by rw [HR.out.2], by rw [HR.out.1]; exact Kd.R_nil _ _ _ _ _, ?_⟩
        exact (((HB.out.setCell (p := ⟨w.heap.size, 0, none⟩) (Nat.le_refl _) _)).setCell (p := ⟨w.heap.size + 1, 0, none⟩) (by simp) _).alloc (by simp; omega) _
      · replace hb : badTab c = false := by simpa using hb
        have HX := HN _ hb
        have e0 : (c.f0 == 4) = false ∨ ((c.f0 == 4) = true ∧ decide (c.f3 < 0) = false) := by unfold badTab at hb; revert hb; cases (c.f0 == 4) <;> simp
        clear HN hb
        rcases e0 with e1 | ⟨e1, e2⟩
        all_goals
          go_wp2
          go_roundw
          case rel => exact ⟨k + 1, by omega, by go_num, ⟨HX.out.2⟩, ⟨below_alloc HB.out _⟩, ⟨HB6.out.alloc _⟩, ⟨HB7.out.alloc _⟩⟩
          case measure => simp [intOf]; omega
    · obtain rfl : k = l0.length := by omega
      have hT : l0.any badTab = false := by have := HT.out; rwa [List.take_length] at this
      have hH : ((unit_Sum.f [a2]).bind fun s => if s.2 ≠ 0 then some ([], s.2) else
        (pensO l1 0 a2 l0).map fun ps => if ps.any (fun p => p.2 != 0) then ([], (ps.getLast?.getD (0, 0)).2) else (a2 :: ps.map (·.1), 0)) = some (r1, r2) := by
        have h := H.out
        unfold tabs_Pens.f at h
        rw [if_pos hlen, if_neg (by simp [hT])] at h
        exact h
      obtain ⟨s, hs, hH⟩ := Option.bind_eq_some_iff.1 hH
      have HS := Aside0.mk hs
      clear hs hT HT H
      go_wp2_with fail
      refine (unit_Sum.calls (some ⟨wr.heap.size, 0, none⟩) 1 [a2] s.1 s.2 _ (lit1_C _ _ _ _) (by simp) HS.out).mono ?_
      rintro e w1 ⟨rfl, hd⟩
      obtain ⟨n1, rfl⟩ := hd.out
      have hz : w.heap.size + 1 < wr.heap.size := Boxed.lt HB7.out
      have hz0 : w.heap.size < wr.heap.size := by omega
      by_cases hs2 : s.2 = 0
      · rw [if_neg (by simp [hs2])] at hH
        obtain ⟨ps, hps, hfin⟩ := Option.map_eq_some_iff.1 hH
        have HPS := Aside0.mk hps
        have HF := Aside0.mk hfin
        have z1 : (s.2 != 0) = false := by simp [hs2]
        clear hH hs2 hps hfin
        go_wp2_with (go_at_call 88; refine (pens_calls _ _ _ _ _ _ _ _).mono ?_; rintro e w' ⟨rfl, rfl⟩)
        refine wp_name ?_
        intro W0 hW0
        have hsz : W0.heap.size = wr.heap.size + 6 := by rw [hW0]; simp
        have b6 : Boxed W0 w.heap.size 91 (.slice none 0 0) := by rw [hW0]; exact (((((((HB6.out.alloc _)).alloc _).alloc _).alloc _).alloc _).alloc _)
        have b7 : Boxed W0 (w.heap.size + 1) 26 (.int .i64 0) := by rw [hW0]; exact (((((((HB7.out.alloc _)).alloc _).alloc _).alloc _).alloc _).alloc _)
        have bo : Boxed W0 (wr.heap.size + 1 + 1) 91 (.slice (some ⟨wr.heap.size + 1, 0, none⟩) 1 1) := by
          rw [hW0]; exact ((((boxed_at (by simp)).alloc _).alloc _).alloc _)
        have bs : Boxed W0 (wr.heap.size + 1) 2 (.int .i64 a2) := by
          rw [hW0]; exact (((((boxed_at (by simp)).alloc _).alloc _).alloc _).alloc _)
        have bl : Boxed W0 (wr.heap.size + 3) 22 (.slice A0 l0.length c0) := by
          rw [hW0]; exact (((boxed_at (by simp)).alloc _).alloc _)
        have br : Boxed W0 (wr.heap.size + 4) 88 (.slice A1 l1.length c1) := by
          rw [hW0]; exact ((boxed_at (by simp)).alloc _)
        have bx : Boxed W0 (wr.heap.size + 5) 2 (.int .i64 a2) := by
          rw [hW0]; exact boxed_at (by simp)
        have hB0 : Below w.heap.size w W0 := by
          rw [hW0]; exact below_alloc (below_alloc (below_alloc (below_alloc (below_alloc (pw_below_drewN (below_alloc HB.out _) _) _) _) _) _) _
        have hsz1 : W0.heap.size ≤ wr.heap.size + 6 := by omega
        have hsz2 : wr.heap.size + 6 ≤ W0.heap.size := by omega
        clear hW0 HB HB6 HB7 hsz
        have hps := pensO_length HPS.out
        apply wp_ranged (m := 3) (gf := 108) (lb := #[.pointer (some ⟨wr.heap.size + 5, 0, none⟩), .pointer (some ⟨wr.heap.size + 3, 0, none⟩), .pointer (some ⟨wr.heap.size + 4, 0, none⟩)]) (by simp [go_sem]) (enters_of Try.func108 (by kernel_rfl) rfl)
          ps (fun p => #[.int .i64 p.1, .int .i64 p.2]) (fun _ _ => rfl) (fun _ => False) (fun i => i = w.heap.size ∨ i = w.heap.size + 1 ∨ i = wr.heap.size + 1 ∨ i = wr.heap.size + 1 + 1 ∨ W0.heap.size + 2 ≤ i) ⟨by omega, by omega⟩ (fun _ h => h.elim)
          (pens_seq 2 w W0 hB0 A0 A1 c0 c1 l0 l1 a2 HC0.out HC1.out hc1 _ _ _ bx bl br _ (by omega) (by omega) (by omega) (fun i hi => by omega) ps HPS.out (by omega))
          (PensI w wr.heap.size W0.heap.size a2 ps) (PensX w ps)
          ?hI ?hIx ?h0 _ ?assign ?body ?done ?stop
        case hI =>
          rintro k A B ⟨hC, h6, h7, hz', hB⟩ hl
          exact ⟨hC.lv hl (by rintro (h | h | h) <;> omega) (fun g hg => by rintro (h | h | h) <;> omega), boxed_lv hl h6 (by rintro (h | h | h) <;> omega), boxed_lv hl h7 (by rintro (h | h | h) <;> omega), hz', hB.trans (hl.below hB.size (fun i hi => by rintro (h | h | h) <;> omega))⟩
        case hIx =>
          rintro c k A B ⟨hc, ⟨p, hp, hk0, hp2, h6, h7⟩, hB⟩ hl
          exact ⟨hc, ⟨p, hp, hk0, hp2, boxed_lv hl h6 (by rintro (h | h | h) <;> omega), boxed_lv hl h7 (by rintro (h | h | h) <;> omega)⟩, hB.trans (hl.below hB.size (fun i hi => by rintro (h | h | h) <;> omega))⟩
        case h0 => exact ⟨coll_lit bo bs (by omega) (.inl rfl), b6, b7, rfl, hB0⟩
        case assign =>
          intro l x W K _ hK
          gi_wp2
          exact hK
        case body =>
          rintro l k hk W hD ⟨rL, hL⟩ ⟨⟨v, bv, hrow, hOg⟩, hb6, hb7, hz', hB⟩
          have hW2 : W0.heap.size + 1 < W.heap.size := (Array.getElem?_eq_some_iff.1 hL).1
          obtain ⟨p, hp⟩ : ∃ p, p = ps[k] := ⟨_, rfl⟩
          rw [← hp]
          have HP := Aside0.mk hp
          clear hp hD hL
          have l6 : w.heap.size < W.heap.size := by omega
          have l7 : w.heap.size + 1 < W.heap.size := by omega
          obtain ⟨ys, hys⟩ : ∃ ys, ys = a2 :: (ps.take k).map (·.1) := ⟨_, rfl⟩
          rw [← hys] at hrow
          have hlk : ys.length = k + 1 := by rw [hys]; simp; omega
          have HYS := Aside0.mk hys
          clear hys
          by_cases h2 : p.2 = 0
          · have z : (p.2 != 0) = false := by rw [bne_eq_false_iff_eq]; exact h2
            have H2 := Aside0.mk h2
            have gv := bv.cell
            have HZ := Aside0.mk hz'
            have HLK := Aside0.mk hlk
            clear h2 hz' hlk
            obtain ⟨i0, hi, hz0, hz1, hz2⟩ := info_parts infoI
            gi_wp2_with (gi_at_builtin; refine wpListIn_append_own_at _ rfl _ _ 91 rfl w.heap.size 2 i0 (.int .i64 0) 1 8 Try.underlying91 hi hz0 hz1 hz2 rfl (by decide) _ _ _ rfl (hrow.alloc _) ⟨W.heap.size, 0, none⟩ 1 1 [.int .i64 p.1] rfl rfl (cell_one_new _ _ _) (by simp [Value.oneCell']) (by rw [HLK.out]; simp only [maxLen]; omega) (by rw [HLK.out]; omega) (by simp; omega) ?_; intro v' w1 hown' hgrow _ hat; obtain ⟨g', cap', rfl⟩ := ownsRow_succ hown'; have HAP := Aside0.mk (coll_appended (Ob := fun i => i = wr.heap.size + 1 ∨ i = wr.heap.size + 1 + 1 ∨ W0.heap.size + 2 ≤ i) bv (by decide) hrow hOg (fun g hg => .inr (by omega)) (by omega) (by omega) hown' hgrow hat (fun g hg => by omega) (by omega)); have HG := Aside0.mk (bv.not_row (by decide) hrow); have bv1 := (bv.alloc _).kept hgrow HG.out; have hc1 := bv1.cell; have hf1 := bv1.frozen; clear hown' hgrow hat)
            refine ⟨HAP.out.2.1.mono (fun i _ h => by omega), ⟨?_, boxed_lv HAP.out.2.1 hb6 (by omega), boxed_lv HAP.out.2.1 hb7 (by omega), ?_, hB.trans HAP.out.2.2⟩⟩
            · have h := HAP.out.1
              rw [List.take_succ_eq_append_getElem hk, List.map_append, ← HP.out]
              obtain rfl := HYS.out
              exact h
            · rw [List.take_succ_eq_append_getElem hk, List.any_append, HZ.out, ← HP.out]
              simp [z]
          · have z : (p.2 != 0) = true := by rw [bne_iff_ne]; exact h2
            have g6 := hb6.cell
            have g7 := hb7.cell
            have f6 := hb6.frozen
            have f7 := hb7.frozen
            gi_wp2
            exact ⟨(Lv.setCell _ (.inl rfl)).trans (Lv.setCell _ (.inr (.inl rfl))), rfl, ⟨p, by rw [Nat.add_sub_cancel, HP.out]; exact List.getElem?_eq_getElem hk, by omega, h2, (hb6.set _).other (by omega) _, (hb7.other (by omega) _).set _⟩, (hB.setCell (p := ⟨w.heap.size, 0, none⟩) (Nat.le_refl _) _).setCell (p := ⟨w.heap.size + 1, 0, none⟩) (by simp) _⟩
        case done =>
          rintro W ⟨⟨v, bv, hrow, hOg⟩, hb6, hb7, hz', hB⟩ hD
          rw [List.take_length] at hrow hz'
          have hr : r1 = a2 :: ps.map (·.1) ∧ r2 = 0 := by
            have h := HF.out
            rw [if_neg (by rw [hz']; simp)] at h
            exact ⟨(Prod.mk.inj h).1.symm, (Prod.mk.inj h).2.symm⟩
          have HR := Aside0.mk hr
          have HZ := Aside0.mk hz'
          have hDl : W0.heap.size < W.heap.size := (Array.getElem?_eq_some_iff.1 hD).1
          have l6 : w.heap.size < W.heap.size := by omega
          have l7 : w.heap.size + 1 < W.heap.size := by omega
          have gv := bv.cell
          have g6 := hb6.cell
          have g7 := hb7.cell
          have f6 := hb6.frozen
          have f7 := hb7.frozen
          obtain ⟨Av, cv, hv⟩ := own_slice hrow
          subst hv
          clear hr hz'
          go_wp2
          have hL3 : Lv (fun i => i = w.heap.size ∨ i = w.heap.size + 1) W ((W.setCell ⟨w.heap.size, 0, none⟩ (.slice Av (ps.length + 1) cv)).setCell ⟨w.heap.size + 1, 0, none⟩ (.int .i64 0)) := (Lv.setCell _ (.inl rfl)).trans (Lv.setCell _ (.inr rfl))
          have hK3 := hL3.heap hD (by omega)
          refine ⟨by simp, .inl ⟨W0.heap.size, _, rfl, run_takeDeferred hK3, ?_⟩⟩
          have hL4 := Lv.putObj (O := fun i => i = W0.heap.size) (A := (W.setCell ⟨w.heap.size, 0, none⟩ (.slice Av (ps.length + 1) cv)).setCell ⟨w.heap.size + 1, 0, none⟩ (.int .i64 0)) (.deferred none) rfl
          have k6 := (boxed_lv hL4 ((hb6.set (.slice Av (ps.length + 1) cv)).other (B' := w.heap.size + 1) (by omega) (.int .i64 0)) (by omega)).cell
          have k7 := (boxed_lv hL4 ((hb7.other (B' := w.heap.size) (by omega) (.slice Av (ps.length + 1) cv)).set (.int .i64 0)) (by omega)).cell
          refine ⟨.tuple #[.slice Av (ps.length + 1) cv, .int .i64 0], by simp [results, Try.f50, go_sem, k6, k7], _, by rw [HR.out.2], ?_, ?_⟩
          · rw [HR.out.1]
            have hr3 := own_lv hL4 (own_lv hL3 hrow (fun g hg => by have := hOg g hg; omega)) (fun g hg => by have := hOg g hg; omega)
            refine Kd.R_of_own ?_ (fun _ _ => trivial)
            simpa [encs] using hr3
          · exact hB.trans ((hL3.below (by omega) (fun i hi => by omega)).trans (hL4.below (by simp [World.setCell]; omega) (fun i hi => by omega)))
        case stop =>
          rintro c k W hk ⟨rfl, ⟨p, hp, hk0, hp2, h6, h7⟩, hB⟩ hD
          have hr : r1 = [] ∧ r2 = p.2 := by
            have h := HF.out
            have hm : p ∈ ps := List.mem_of_getElem? hp
            rw [if_pos (List.any_eq_true.2 ⟨p, hm, by simpa using hp2⟩)] at h
            have hl := pensO_last HPS.out hp hp2
            rw [hl] at h
            exact ⟨(Prod.mk.inj h).1.symm, (Prod.mk.inj h).2.symm⟩
          have HR := Aside0.mk hr
          have hDl : W0.heap.size < W.heap.size := (Array.getElem?_eq_some_iff.1 hD).1
          clear hr
          go_wp2
          refine ⟨by simp, .inl ⟨W0.heap.size, _, rfl, run_takeDeferred hD, ?_⟩⟩
          have hL4 := Lv.putObj (O := fun i => i = W0.heap.size) (A := W) (.deferred none) rfl
          have k6 := (boxed_lv hL4 h6 (by omega)).cell
          have k7 := (boxed_lv hL4 h7 (by omega)).cell
          refine ⟨.tuple #[.slice none 0 0, .int .i64 p.2], by simp [results, Try.f50, go_sem, k6, k7], _, by rw [HR.out.2], by rw [HR.out.1]; exact Kd.R_nil _ _ _ _ _, ?_⟩
          exact hB.trans (hL4.below (by omega) (fun i hi => by omega))
      · rw [if_pos hs2] at hH
        have z1 : (s.2 != 0) = true := by simp [hs2]
        have HR := Aside0.mk (Prod.mk.inj (Option.some.inj hH))
        clear hH hs2
        have g6 := HB6.out.cell
        have g7 := HB7.out.cell
        have f6 := HB6.out.frozen
        have f7 := HB7.out.frozen
        go_wp2
        have k6 := (((boxed_drewN (n := n1) (HB6.out.alloc (.cells #[.int .i64 a2] 2))).set (.slice none 0 0)).other (B' := w.heap.size + 1) (by omega) (.int .i64 s.snd)).cell
        have k7 := (((boxed_drewN (n := n1) (HB7.out.alloc (.cells #[.int .i64 a2] 2))).other (B' := w.heap.size) (by omega) (.slice none 0 0)).set (.int .i64 s.snd)).cell
        refine ⟨.tuple #[.slice none 0 0, .int .i64 s.snd], by simp [results, Try.f50, go_sem, k6, k7], _, by rw [HR.out.2], by rw [← HR.out.1]; exact Kd.R_nil _ _ _ _ _, ?_⟩
        exact (((pw_below_drewN (below_alloc HB.out _) _)).setCell (p := ⟨w.heap.size, 0, none⟩) (Nat.le_refl _) _).setCell (p := ⟨w.heap.size + 1, 0, none⟩) (by simp) _
end

/-! ### tabs_End: function 19 -/
def tabs_End.f (l0 : List (S25)) (l1 : List Int) (a2 : Int) : Option (Int × Int) := (tabs_Pens.f l0 l1 a2).bind fun bt125 => (if bt125.2 = 0 then (if 0 ≤ (wrap64 ((bt125.1.length : Int) - 1)) then (if (wrap64 ((bt125.1.length : Int) - 1)) < (bt125.1.length : Int) then (some (rd bt125.1 (wrap64 ((bt125.1.length : Int) - 1)), 0)) else (none)) else (none)) else (some (0, bt125.2)))
set_option maxHeartbeats 8000000 in
set_option maxRecDepth 100000 in
theorem tabs_End.calls (A0 : Option Addr) (c0 : Nat) (l0 : List (S25)) (A1 : Option Addr) (c1 : Nat) (l1 : List Int) (a2 : Int) (r1 : Int) (r2 : Int) (w : World) (hr0 : Kd.C k25 w A0 l0.length l0) (hc0 : l0.length ≤ c0) (hr1 : Kd.C (Kd.int .u8) w A1 l1.length l1) (hc1 : l1.length ≤ c1) (h : tabs_End.f l0 l1 a2 = some (r1, r2)) :
    Calls Try.prog 19 #[.slice A0 l0.length c0, .slice A1 l1.length c1, .int .i64 a2] w fun e w' => e = .returned (.tuple #[.int .i64 r1, .int .i64 r2]) ∧ Below w.heap.size w w' := by
  have HR0 := Aside0.mk hr0
  have HC0 := Aside0.mk hc0
  clear hr0 hc0
  have HR1 := Aside0.mk hr1
  have HC1 := Aside0.mk hc1
  clear hr1 hc1
  have HB := Aside0.mk (Below.refl w.heap.size w)
  have H : ((tabs_Pens.f l0 l1 a2).bind fun bt125 => (if bt125.2 = 0 then (if 0 ≤ (wrap64 ((bt125.1.length : Int) - 1)) then (if (wrap64 ((bt125.1.length : Int) - 1)) < (bt125.1.length : Int) then (some (rd bt125.1 (wrap64 ((bt125.1.length : Int) - 1)), 0)) else (none)) else (none)) else (some (0, bt125.2)))) = some (r1, r2) := h
  clear h
  replace H := Option.bind_eq_some_iff.mp H
  obtain ⟨⟨t125, t126⟩, A40, H⟩ := H
  replace H : (if t126 = 0 then (if 0 ≤ (wrap64 ((t125.length : Int) - 1)) then (if (wrap64 ((t125.length : Int) - 1)) < (t125.length : Int) then (some (rd t125 (wrap64 ((t125.length : Int) - 1)), 0)) else (none)) else (none)) else (some (0, t126))) = some (r1, r2) := H
  have A4 := Aside0.mk A40
  clear A40
  by_cases c5 : t126 = 0
  · rw [if_pos c5] at H
    have c5b0 : (t126 == 0) = true := beq_iff_eq.mpr c5
    have c5b1 : (t126 != 0) = false := bne_eq_false_iff_eq.mpr c5
    clear c5
    obtain ⟨ji6, hji6⟩ : ∃ j_ : Int, (wrap64 ((t125.length : Int) - 1)) = j_ := ⟨_, rfl⟩
    replace H : (if 0 ≤ (ji6) then (if (ji6) < (t125.length : Int) then (some (rd t125 (ji6), 0)) else (none)) else (none)) = some (r1, r2) := by first | (rw [hji6] at H; exact H) | (simp only [hji6] at H ⊢; exact H)
    (try rw [hji6] at A4)
    have hji6w : (IntKind.i64.wrap ((t125.length : Int) - 1)) = ji6 := (i64_w _).trans hji6
    by_cases c7 : 0 ≤ (ji6)
    · rw [if_pos c7] at H
      have c7b0 : decide (0 ≤ (ji6)) = true := decide_eq_true c7
      clear c7
      by_cases c8 : (ji6) < (t125.length : Int)
      · rw [if_pos c8] at H
        have c8b0 : decide ((ji6) < (t125.length : Int)) = true := decide_eq_true c8
        clear c8
        simp only [Option.some.injEq, Prod.mk.injEq] at H
        obtain ⟨rfl, rfl⟩ := H
        go_enter Try.func19, Try.ntmps19
        go_wp2_with (first | ((with_reducible refine gate_callee (f := 50) rfl ?_); refine goesL_ (some 14) rfl rfl Try.func50 (by kernel_rfl) rfl #[.slice A0 l0.length c0, .slice A1 l1.length c1, .int .i64 a2] rfl (by (try simp only [List.map_toArray, List.map_cons, List.map_nil]); first | done | rfl | (simp only [List.length_drop, List.length_take]; rfl)) ?_; (with_reducible refine (tabs_Pens.calls _ _ l0 _ _ l1 a2 t125 t126 _ ?side1 ?side2 ?side3 ?side4 A4.out).mono ?_); (case side1 => repeat (first | exact HR0.out | (with_reducible refine Kd.C_alloc ?_ _) | (with_reducible refine Kd.C_drewN ?_ _) | (with_reducible refine Kd.C_drew ?_))); (case side2 => exact HC0.out); (case side3 => repeat (first | exact HR1.out | (with_reducible refine Kd.C_alloc ?_ _) | (with_reducible refine Kd.C_drewN ?_ _) | (with_reducible refine Kd.C_drew ?_))); (case side4 => exact HC1.out); rintro e w9 ⟨v127, rfl, ho0, hb⟩; refine ⟨_, rfl, ?_⟩; have n0_ := Aside0.mk (Kd.R_lower ho0 (below_size (by repeat (first | (with_reducible first | exact HB.out | apply below_alloc | apply pw_below_drewN | apply below_drew1) | exact HB.out)))); have n1_ := Aside0.mk (below_step (by repeat (first | (with_reducible first | exact HB.out | apply below_alloc | apply pw_below_drewN | apply below_drew1) | exact HB.out)) hb); clear HB; have HO128 := n0_; have HB := n1_; clear n0_ n1_; (try clear hb); (try clear hb2); (try clear hk); (try clear hi); (try clear ho0); obtain ⟨Ao10, co10, eo10⟩ := Kd.R_slice HO128.out; subst eo10; have p129 : 0 ≤ ((ji6) : Int) := of_decide_eq_true (by first | (with_reducible assumption) | assumption); have q129 : (ji6) < (t125.length : Int) := of_decide_eq_true (by first | (with_reducible assumption) | assumption); obtain ⟨ad129, e129, hx129_0⟩ := Kd.at_int (Kd.R_reads' HO128.out).2.2 (ji6) p129 q129; cases e129; replace p129 := eq_true p129; replace q129 := eq_true q129))
        go_ret2
        exact ⟨by first | rfl | (simp [errW_none, errW_some] <;> rfl) | (simp only [← hji6]; first | rfl | (simp [errW_none, errW_some] <;> rfl)) | (simp [*, errW_none, errW_some] <;> rfl), by repeat (first | (with_reducible first | exact HB.out | apply below_alloc | apply pw_below_drewN | apply below_drew1) | exact HB.out)⟩
      · rw [if_neg c8] at H
        exact absurd H (by simp)
    · rw [if_neg c7] at H
      exact absurd H (by simp)
  · rw [if_neg c5] at H
    have c5b0 : (t126 == 0) = false := beq_eq_false_iff_ne.mpr c5
    have c5b1 : (t126 != 0) = true := bne_iff_ne.mpr c5
    simp only [Option.some.injEq, Prod.mk.injEq] at H
    obtain ⟨rfl, rfl⟩ := H
    go_enter Try.func19, Try.ntmps19
    go_wp2_with (first | ((with_reducible refine gate_callee (f := 50) rfl ?_); refine goesL_ (some 14) rfl rfl Try.func50 (by kernel_rfl) rfl #[.slice A0 l0.length c0, .slice A1 l1.length c1, .int .i64 a2] rfl (by (try simp only [List.map_toArray, List.map_cons, List.map_nil]); first | done | rfl | (simp only [List.length_drop, List.length_take]; rfl)) ?_; (with_reducible refine (tabs_Pens.calls _ _ l0 _ _ l1 a2 t125 t126 _ ?side1 ?side2 ?side3 ?side4 A4.out).mono ?_); (case side1 => repeat (first | exact HR0.out | (with_reducible refine Kd.C_alloc ?_ _) | (with_reducible refine Kd.C_drewN ?_ _) | (with_reducible refine Kd.C_drew ?_))); (case side2 => exact HC0.out); (case side3 => repeat (first | exact HR1.out | (with_reducible refine Kd.C_alloc ?_ _) | (with_reducible refine Kd.C_drewN ?_ _) | (with_reducible refine Kd.C_drew ?_))); (case side4 => exact HC1.out); rintro e w11 ⟨v127, rfl, ho0, hb⟩; refine ⟨_, rfl, ?_⟩; have n0_ := Aside0.mk (Kd.R_lower ho0 (below_size (by repeat (first | (with_reducible first | exact HB.out | apply below_alloc | apply pw_below_drewN | apply below_drew1) | exact HB.out)))); have n1_ := Aside0.mk (below_step (by repeat (first | (with_reducible first | exact HB.out | apply below_alloc | apply pw_below_drewN | apply below_drew1) | exact HB.out)) hb); clear HB; have HO128 := n0_; have HB := n1_; clear n0_ n1_; (try clear hb); (try clear hb2); (try clear hk); (try clear hi); (try clear ho0)))
    go_ret2
    exact ⟨by first | rfl | (simp [errW_none, errW_some] <;> rfl) | (simp [*, errW_none, errW_some] <;> rfl), by repeat (first | (with_reducible first | exact HB.out | apply below_alloc | apply pw_below_drewN | apply below_drew1) | exact HB.out)⟩

/-! ### trim_edge: function 51 -/
def trim_edge.f (a0_0 : Int) (a0_1 : Int) (a0_2 : Int) (a0_3 : Int) (a0_4 : Bool) (a0_5 : Bool) : Option (Bool) := if a0_0 = 7 then (some true) else (if a0_0 = 8 then (some true) else (some (a0_0 == 5)))
set_option maxHeartbeats 8000000 in
set_option maxRecDepth 100000 in
theorem trim_edge.calls (a0_0 : Int) (a0_1 : Int) (a0_2 : Int) (a0_3 : Int) (a0_4 : Bool) (a0_5 : Bool) (r : Bool) (w : World) (h : trim_edge.f a0_0 a0_1 a0_2 a0_3 a0_4 a0_5 = some r) :
    Calls Try.prog 51 #[.agg #[.int .u8 a0_0, .int .i64 a0_1, .int .i64 a0_2, .int .i64 a0_3, .bool a0_4, .bool a0_5]] w fun e w' => e = .returned (.bool r) ∧ Below w.heap.size w w' := by
  have hu25 := Try.underlying25
  have HB := Aside0.mk (Below.refl w.heap.size w)
  have H : (if a0_0 = 7 then (some true) else (if a0_0 = 8 then (some true) else (some (a0_0 == 5)))) = some r := h
  clear h
  by_cases c2 : a0_0 = 7
  · rw [if_pos c2] at H
    have c2b0 : (a0_0 == 7) = true := beq_iff_eq.mpr c2
    have c2b1 : (a0_0 != 7) = false := bne_eq_false_iff_eq.mpr c2
    clear c2
    obtain rfl := Option.some.inj H
    go_enter Try.func51, Try.ntmps51
    go_wp2_with (first | ((with_reducible refine gate_dst (N := 1) rfl ?_); refine box_event ?hg (N := 1) ?hd (cs := #[.int .u8 a0_0, .int .i64 a0_1, .int .i64 a0_2, .int .i64 a0_3, .bool a0_4, .bool a0_5]) (t := 25) ?hr ?_; (case hd => rfl); (case hg => rfl); (case hr => first | (go_simp; done) | (go_simp; rfl)); intro gb130 hg w3 hbox hb; have n0_ := Aside0.mk (below_step (by repeat (first | (with_reducible first | exact HB.out | apply below_alloc | apply pw_below_drewN | apply below_drew1) | exact HB.out)) hb); have n1_ := Aside0.mk (hbox); have n2_ := Aside0.mk ((by rw [hg]; exact (below_size (by repeat (first | (with_reducible first | exact HB.out | apply below_alloc | apply pw_below_drewN | apply below_drew1) | exact HB.out))) : w.heap.size ≤ gb130)); have n3_ := Aside0.mk ((by rw [hg]; exact (below_size (by repeat (first | (with_reducible first | exact HB.out | apply below_alloc | apply pw_below_drewN | apply below_drew1) | exact HB.out))) : w.heap.size ≤ gb130)); clear HB; have HB := n0_; have BK130 := n1_; have GW130 := n2_; have GE130 := n3_; clear n0_ n1_ n2_ n3_; clear hb hbox hg; have hcz4_0 : w3.cell? ⟨gb130, 0, none⟩ = some (.int .u8 a0_0) := (blk_cell BK130.out 0).trans rfl; have hcz4_1 : w3.cell? ⟨gb130, 1, none⟩ = some (.int .i64 a0_1) := (blk_cell BK130.out 1).trans rfl; have hcz4_2 : w3.cell? ⟨gb130, 2, none⟩ = some (.int .i64 a0_2) := (blk_cell BK130.out 2).trans rfl; have hcz4_3 : w3.cell? ⟨gb130, 3, none⟩ = some (.int .i64 a0_3) := (blk_cell BK130.out 3).trans rfl; have hcz4_4 : w3.cell? ⟨gb130, 4, none⟩ = some (.bool a0_4) := (blk_cell BK130.out 4).trans rfl; have hcz4_5 : w3.cell? ⟨gb130, 5, none⟩ = some (.bool a0_5) := (blk_cell BK130.out 5).trans rfl; have hfz4_0 := blk_frozen BK130.out 0; have hfz4_1 := blk_frozen BK130.out 1; have hfz4_2 := blk_frozen BK130.out 2; have hfz4_3 := blk_frozen BK130.out 3; have hfz4_4 := blk_frozen BK130.out 4; have hfz4_5 := blk_frozen BK130.out 5))
    go_ret
    exact ⟨by first | rfl | (simp [errW_none, errW_some] <;> rfl) | (simp [*, errW_none, errW_some] <;> rfl), by repeat (first | (with_reducible first | exact HB.out | apply below_alloc | apply pw_below_drewN | apply below_drew1 | refine below_set ?_ GE130.out) | exact HB.out)⟩
  · rw [if_neg c2] at H
    have c2b0 : (a0_0 == 7) = false := beq_eq_false_iff_ne.mpr c2
    have c2b1 : (a0_0 != 7) = true := bne_iff_ne.mpr c2
    by_cases c5 : a0_0 = 8
    · rw [if_pos c5] at H
      have c5b0 : (a0_0 == 8) = true := beq_iff_eq.mpr c5
      have c5b1 : (a0_0 != 8) = false := bne_eq_false_iff_eq.mpr c5
      clear c5
      obtain rfl := Option.some.inj H
      go_enter Try.func51, Try.ntmps51
      go_wp2_with (first | ((with_reducible refine gate_dst (N := 1) rfl ?_); refine box_event ?hg (N := 1) ?hd (cs := #[.int .u8 a0_0, .int .i64 a0_1, .int .i64 a0_2, .int .i64 a0_3, .bool a0_4, .bool a0_5]) (t := 25) ?hr ?_; (case hd => rfl); (case hg => rfl); (case hr => first | (go_simp; done) | (go_simp; rfl)); intro gb130 hg w6 hbox hb; have n0_ := Aside0.mk (below_step (by repeat (first | (with_reducible first | exact HB.out | apply below_alloc | apply pw_below_drewN | apply below_drew1) | exact HB.out)) hb); have n1_ := Aside0.mk (hbox); have n2_ := Aside0.mk ((by rw [hg]; exact (below_size (by repeat (first | (with_reducible first | exact HB.out | apply below_alloc | apply pw_below_drewN | apply below_drew1) | exact HB.out))) : w.heap.size ≤ gb130)); have n3_ := Aside0.mk ((by rw [hg]; exact (below_size (by repeat (first | (with_reducible first | exact HB.out | apply below_alloc | apply pw_below_drewN | apply below_drew1) | exact HB.out))) : w.heap.size ≤ gb130)); clear HB; have HB := n0_; have BK130 := n1_; have GW130 := n2_; have GE130 := n3_; clear n0_ n1_ n2_ n3_; clear hb hbox hg; have hcz7_0 : w6.cell? ⟨gb130, 0, none⟩ = some (.int .u8 a0_0) := (blk_cell BK130.out 0).trans rfl; have hcz7_1 : w6.cell? ⟨gb130, 1, none⟩ = some (.int .i64 a0_1) := (blk_cell BK130.out 1).trans rfl; have hcz7_2 : w6.cell? ⟨gb130, 2, none⟩ = some (.int .i64 a0_2) := (blk_cell BK130.out 2).trans rfl; have hcz7_3 : w6.cell? ⟨gb130, 3, none⟩ = some (.int .i64 a0_3) := (blk_cell BK130.out 3).trans rfl; have hcz7_4 : w6.cell? ⟨gb130, 4, none⟩ = some (.bool a0_4) := (blk_cell BK130.out 4).trans rfl; have hcz7_5 : w6.cell? ⟨gb130, 5, none⟩ = some (.bool a0_5) := (blk_cell BK130.out 5).trans rfl; have hfz7_0 := blk_frozen BK130.out 0; have hfz7_1 := blk_frozen BK130.out 1; have hfz7_2 := blk_frozen BK130.out 2; have hfz7_3 := blk_frozen BK130.out 3; have hfz7_4 := blk_frozen BK130.out 4; have hfz7_5 := blk_frozen BK130.out 5))
      go_ret
      exact ⟨by first | rfl | (simp [errW_none, errW_some] <;> rfl) | (simp [*, errW_none, errW_some] <;> rfl), by repeat (first | (with_reducible first | exact HB.out | apply below_alloc | apply pw_below_drewN | apply below_drew1 | refine below_set ?_ GE130.out) | exact HB.out)⟩
    · rw [if_neg c5] at H
      have c5b0 : (a0_0 == 8) = false := beq_eq_false_iff_ne.mpr c5
      have c5b1 : (a0_0 != 8) = true := bne_iff_ne.mpr c5
      obtain rfl := Option.some.inj H
      go_enter Try.func51, Try.ntmps51
      go_wp2_with (first | ((with_reducible refine gate_dst (N := 1) rfl ?_); refine box_event ?hg (N := 1) ?hd (cs := #[.int .u8 a0_0, .int .i64 a0_1, .int .i64 a0_2, .int .i64 a0_3, .bool a0_4, .bool a0_5]) (t := 25) ?hr ?_; (case hd => rfl); (case hg => rfl); (case hr => first | (go_simp; done) | (go_simp; rfl)); intro gb130 hg w8 hbox hb; have n0_ := Aside0.mk (below_step (by repeat (first | (with_reducible first | exact HB.out | apply below_alloc | apply pw_below_drewN | apply below_drew1) | exact HB.out)) hb); have n1_ := Aside0.mk (hbox); have n2_ := Aside0.mk ((by rw [hg]; exact (below_size (by repeat (first | (with_reducible first | exact HB.out | apply below_alloc | apply pw_below_drewN | apply below_drew1) | exact HB.out))) : w.heap.size ≤ gb130)); have n3_ := Aside0.mk ((by rw [hg]; exact (below_size (by repeat (first | (with_reducible first | exact HB.out | apply below_alloc | apply pw_below_drewN | apply below_drew1) | exact HB.out))) : w.heap.size ≤ gb130)); clear HB; have HB := n0_; have BK130 := n1_; have GW130 := n2_; have GE130 := n3_; clear n0_ n1_ n2_ n3_; clear hb hbox hg; have hcz9_0 : w8.cell? ⟨gb130, 0, none⟩ = some (.int .u8 a0_0) := (blk_cell BK130.out 0).trans rfl; have hcz9_1 : w8.cell? ⟨gb130, 1, none⟩ = some (.int .i64 a0_1) := (blk_cell BK130.out 1).trans rfl; have hcz9_2 : w8.cell? ⟨gb130, 2, none⟩ = some (.int .i64 a0_2) := (blk_cell BK130.out 2).trans rfl; have hcz9_3 : w8.cell? ⟨gb130, 3, none⟩ = some (.int .i64 a0_3) := (blk_cell BK130.out 3).trans rfl; have hcz9_4 : w8.cell? ⟨gb130, 4, none⟩ = some (.bool a0_4) := (blk_cell BK130.out 4).trans rfl; have hcz9_5 : w8.cell? ⟨gb130, 5, none⟩ = some (.bool a0_5) := (blk_cell BK130.out 5).trans rfl; have hfz9_0 := blk_frozen BK130.out 0; have hfz9_1 := blk_frozen BK130.out 1; have hfz9_2 := blk_frozen BK130.out 2; have hfz9_3 := blk_frozen BK130.out 3; have hfz9_4 := blk_frozen BK130.out 4; have hfz9_5 := blk_frozen BK130.out 5))
      go_ret
      exact ⟨by first | rfl | (simp [errW_none, errW_some] <;> rfl) | (simp [*, errW_none, errW_some] <;> rfl), by repeat (first | (with_reducible first | exact HB.out | apply below_alloc | apply pw_below_drewN | apply below_drew1 | refine below_set ?_ GE130.out) | exact HB.out)⟩

-- NOT PRINTED: function 85 (trim_from)

end Go.Proofs.Ytkcmehijmgjgfaa.MFillForced
