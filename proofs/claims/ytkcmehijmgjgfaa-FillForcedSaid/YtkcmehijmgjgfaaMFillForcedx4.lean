-- Written by a program of this session for this claim.
import Derived.Test.YtkcmehijmgjgfaaMFillForcedx0
import Derived.Test.YtkcmehijmgjgfaaMFillForcedx3
namespace Go.Proofs.Ytkcmehijmgjgfaa.MFillForced
open Go.RowKit Go.Proofs.YtkcmehijmgjgfaaW.PrintWords Go.Proofs.YtkcmehijmgjgfaaW.PrintLast Go.Proofs.YtkcmehijmgjgfaaW.PrintMore
attribute [local go_sem] max2_int min2_int max_two min_two max_three min_three max_four min_four   -- for this text's walks alone
set_option linter.unusedVariables false
set_option linter.unusedSimpArgs false

attribute [local irreducible] Go.wpStill Go.wpQuiet
/-! ### trim_Roles: function 49 -/
-- needs func trim.edge
section
open Go.Proofs.Ytkcmehijmgjgfaa.It Go.Shelf
attribute [local go_sem] Oper.semAt_some
def encC (c : S25) : Value := .agg #[.int .u8 c.f0, .int .i64 c.f1, .int .i64 c.f2, .int .i64 c.f3, .bool c.f4, .bool c.f5]
/-- The places that an iterator comes to from i0 on, by d, as long as p is so. -/
structure FromS (p : S25 → Bool) (l : List S25) (i0 d : Int) (xs : List Nat) : Prop where
  at_ : ∀ k (h : k < xs.length), ((xs[k]'h : Nat) : Int) = i0 + d * k ∧ ∃ hl : xs[k]'h < l.length, p (l[xs[k]'h]'hl) = true
  stop : i0 + d * xs.length < 0 ∨ (l.length : Int) ≤ i0 + d * xs.length ∨ ∃ (j : Nat) (hl : j < l.length), (j : Int) = i0 + d * xs.length ∧ p (l[j]'hl) = false
def iOf (W : World) (b : Nat) : Int := match W.cell? ⟨b, 0, none⟩ with | some (.int _ n) => n | _ => 0

set_option maxRecDepth 100000 in
set_option maxHeartbeats 2000000 in
theorem from_seq (m : Nat) (w0 w : World) (hb : Below w0.heap.size w0 w) (A0 : Option Addr) (c0 : Nat) (l0 : List S25) (i0 d : Int) (fid : Nat) (cap : Array Value)
    (hC0 : Kd.C k25 w0 A0 l0.length l0) (bi bl bs bb : Nat)
    (hi : Boxed w bi 3 (.int .i64 i0)) (hl : Boxed w bl 22 (.slice A0 l0.length c0)) (hs : Boxed w bs 94 (.func (.func fid) #[] cap)) (hy : Boxed w bb 3 (.int .i64 d))
    (Oc : Nat → Prop) (hOi : ¬ Oc bi) (hOl : ¬ Oc bl) (hOs : ¬ Oc bs) (hOy : ¬ Oc bb) (hO : ∀ i, i < w0.heap.size → ¬ Oc i) (hbi : w0.heap.size ≤ bi) (hnl : bl ≠ bi) (hns : bs ≠ bi) (hny : bb ≠ bi)
    (p : S25 → Bool) (G : World → Prop) (hG : ∀ A B, G A → Lv (fun i => Oc i ∨ i = bi) A B → G B) (hGw : G w)
    (eg : ∀ args w, (callFunc fid args).run Try.prog w = .ok (.enter fid args) w)
    (hp : ∀ c W, G W → Calls Try.prog fid (#[encC c] ++ cap) W fun e W' => e = .returned (.bool (p c)) ∧ Below W.heap.size W W')
    (xs : List Nat) (hd : d = 1 ∨ d = -1) (hxs : FromS p l0 i0 d xs) (hlen : l0.length < 4611686018427387904) (hi0 : -1 ≤ i0) (hi1 : i0 < 4611686018427387904) :
    Seq (m + 1) Try.prog 105 #[.pointer (some ⟨bi, 0, none⟩), .pointer (some ⟨bl, 0, none⟩), .pointer (some ⟨bs, 0, none⟩), .pointer (some ⟨bb, 0, none⟩)] (xs.map fun i : Nat => #[Value.int .i64 (i : Int)]) (fun i => i = bi) Oc w := by
  intro l J Jx W hW hJ hJx hY h0
  have HX := Aside0.mk hxs
  have HC0 := Aside0.mk hC0
  have HP := Aside0.mk hp
  have HB := Aside0.mk (And.intro hb hW)
  clear hxs hC0 hp
  refine callsIn_of_wp Try.func105 rfl trivial ?_ rfl
  simp only [Try.ntmps105, List.size_toArray, List.length_cons, List.length_nil, Nat.reduceAdd, Nat.reduceSub, Array.replicate_succ, Array.replicate_zero, List.push_toArray, List.append_toArray, List.nil_append, List.cons_append]
  gi_wp2
  gi_loopw [] (fun wr => ∃ (k : Nat), k ≤ xs.length ∧ J k wr ∧ Aside0 (Lv (fun i => Oc i ∨ i = bi) w wr) ∧ Aside0 (Boxed wr bi 3 (.int .i64 (i0 + d * k))))
    (fun wr => xs.length - ((iOf wr bi - i0) * d).toNat)
  case atStart => exact ⟨0, by omega, h0, ⟨hW.mono fun _ _ h => .inl h⟩, ⟨by simpa using boxed_lv hW hi hOi⟩⟩
  case round =>
    obtain ⟨k, hk, hJs, HL, HI⟩ := hrel
    have hlW := (boxed_lv HL.out hl (fun h => h.elim hOl hnl)).cell
    have hsW := (boxed_lv HL.out hs (fun h => h.elim hOs hns)).cell
    have hyW := (boxed_lv HL.out hy (fun h => h.elim hOy hny)).cell
    have hiW := HI.out.cell
    have hGr := Aside0.mk (hG _ _ hGw HL.out)
    by_cases hlt : k < xs.length
    · obtain ⟨hx, hxl, hpx⟩ := HX.out.at_ k hlt
      obtain ⟨j, hj⟩ : ∃ j, j = xs[k] := ⟨_, rfl⟩
      rw [← hj] at hx
      have hjl : j < l0.length := by rw [hj]; exact hxl
      have hpj : p l0[j] = true := by subst hj; exact hpx
      rw [← hx] at hiW
      have hBw : Below w0.heap.size w0 wr := hb.trans (HL.out.below hb.size (fun i hi h => h.elim (hO i hi) (by omega)))
      obtain ⟨ad, e, d0, d1, d2, d3, d4, d5⟩ := at_T25 HC0.out (j : Int) (by omega) (by omega)
      cases e
      have ec : rd_T25 l0 (j : Int) = l0[j] := by unfold rd_T25; rw [Int.toNat_natCast, List.getD_eq_getElem?_getD, List.getElem?_eq_getElem hjl]; rfl
      rw [ec] at d0 d1 d2 d3 d4 d5
      obtain ⟨c, hc⟩ : ∃ c, c = l0[j] := ⟨_, rfl⟩
      rw [← hc] at d0 d1 d2 d3 d4 d5 hpj
      have HCk := Aside0.mk hc
      clear hc ec
      rw [Int.toNat_natCast] at d0 d1 d2 d3 d4 d5
      replace d0 := pw_cell_below hBw d0
      replace d1 := pw_cell_below hBw d1
      replace d2 := pw_cell_below hBw d2
      replace d3 := pw_cell_below hBw d3
      replace d4 := pw_cell_below hBw d4
      replace d5 := pw_cell_below hBw d5
      have HJ := Aside0.mk hj
      have HX := Aside0.mk hx
      have HPJ := Aside0.mk hpj
      have y1 : decide (0 ≤ (j : Int)) = true := by simp
      have y2 : decide ((j : Int) < (l0.length : Int)) = true := by simp; exact hjl
      clear hBw hj hx hpj hxl hpx
      gi_wp2_with fail
      refine wpIn_wide.2 ?_
      refine wp_region_still_tail 14 (by kernel_rfl) (by kernel_rfl) ?_
      simp only [List.take_succ_cons, List.take_zero, List.drop_succ_cons, List.drop_zero]
      iterate 14 still_step
      refine wpStill_nil ?_
      go_wp2_with fail
      refine (HP.out c _ (hG _ _ hGr.out (Lv.drew _ _))).mono ?_
      rintro e w1 ⟨rfl, hb1⟩
      rw [HPJ.out]
      have hL1 : ∀ O, Lv O wr w1 := fun O => (Lv.drew O wr).trans (Lv.of_below hb1)
      have HI1 := boxed_lv (hL1 (fun _ => False)) HI.out (fun h => h)
      rw [← HX.out] at HI1
      have hJ1 : J k w1 := hJ _ _ _ hJs (hL1 _)
      have HL1 := Aside0.mk (HL.out.trans (hL1 _))
      have i1 := HI1.cell
      clear hb1 hL1 hlW hsW hyW hiW hJs
      have hdk : xs.drop k = j :: xs.drop (k + 1) := by rw [HJ.out]; exact List.drop_eq_getElem_cons hlt
      obtain ⟨fn, tm, asg, bd, hyl, hR⟩ := yieldAt_of hY hdk _ hJ1
      clear hdk
      go_wp2_with fail
      gi_wp2_with fail
      refine hR.mono ?_
      rintro e W3 (⟨rfl, hJ3, hk3⟩ | ⟨rfl, hJx3, hk3⟩)
      · have HI3 := boxed_lv hk3 HI1 hOi
        have hy3 := (boxed_lv (HL1.out.trans (hk3.mono fun _ _ h => .inl h)) hy (fun h => h.elim hOy hny)).cell
        have hi3 := HI3.cell
        have hf3 := HI3.frozen
        have HL3 := Aside0.mk (HL1.out.trans (hk3.mono fun _ _ h => .inl h))
        have HI3' := Aside0.mk HI3
        have hd1 : -1 ≤ d := by omega
        have hd2 : d ≤ 1 := by omega
        clear hk3 HI3 HI1 i1 hyl hR
        gi_wp2
        go_roundw
        case rel =>
          refine ⟨k + 1, by omega, hJ _ _ _ hJ3 (Lv.setCell _ rfl), ⟨HL3.out.trans (Lv.setCell _ (.inr rfl))⟩, ⟨?_⟩⟩
          have e : i0 + d * ((k + 1 : Nat) : Int) = (j : Int) + d := by rw [HX.out]; rw [Int.natCast_add, Int.mul_add]; simp; omega
          rw [e]
          exact HI3'.out.set _
        case measure =>
          have m1 : iOf wr bi = i0 + d * k := by unfold iOf; rw [HI.out.cell]
          have m2 : iOf (W3.setCell ⟨bi, 0, none⟩ (.int .i64 ((j : Int) + d))) bi = i0 + d * ((k + 1 : Nat) : Int) := by
            unfold iOf
            rw [(HI3'.out.set _).cell, HX.out, Int.natCast_add, Int.mul_add]
            simp; omega
          rw [m1, m2]
          have q : ∀ n : Nat, ((i0 + d * (n : Int) - i0) * d).toNat = n := by
            intro n
            rcases hd with rfl | rfl <;> omega
          rw [q, q]
          omega
      · gi_wp2
        refine bodyPost_ret (results_none rfl _ _ _) rfl ?_
        exact ⟨⟨_, rfl⟩, .inr ⟨k + 1, by rw [List.length_map]; omega, hJx3⟩⟩
    · obtain rfl : k = xs.length := by omega
      have hst := HX.out.stop
      obtain ⟨q, hq⟩ : ∃ q, q = i0 + d * (xs.length : Int) := ⟨_, rfl⟩
      rw [← hq] at hst hiW
      have HQ := Aside0.mk hq
      clear hq
      rcases hst with h | h | ⟨j, hjl, hx, hpx⟩
      · have y1 : decide (0 ≤ q) = false := by simp; exact h
        gi_wp2_with fail
        refine wpIn_wide.2 ?_
        refine wp_region_still_tail 14 (by kernel_rfl) (by kernel_rfl) ?_
        simp only [List.take_succ_cons, List.take_zero, List.drop_succ_cons, List.drop_zero]
        iterate 14 still_step
        refine wpStill_nil ?_
        go_wp2_with fail
        gi_wp2
        go_end0
        exact ⟨⟨_, rfl⟩, .inl (by rw [List.length_map]; exact hJ _ _ _ hJs (Lv.drew _ _))⟩
      · have y1 : decide (0 ≤ q) = true := by simp; omega
        have y2 : decide (q < (l0.length : Int)) = false := by simp; exact h
        gi_wp2_with fail
        refine wpIn_wide.2 ?_
        refine wp_region_still_tail 14 (by kernel_rfl) (by kernel_rfl) ?_
        simp only [List.take_succ_cons, List.take_zero, List.drop_succ_cons, List.drop_zero]
        iterate 14 still_step
        refine wpStill_nil ?_
        go_wp2_with fail
        gi_wp2
        go_end0
        exact ⟨⟨_, rfl⟩, .inl (by rw [List.length_map]; exact hJ _ _ _ hJs (Lv.drew _ _))⟩
      · obtain rfl : q = (j : Int) := hx.symm
        have hBw : Below w0.heap.size w0 wr := hb.trans (HL.out.below hb.size (fun i hi h => h.elim (hO i hi) (by omega)))
        obtain ⟨ad, e, d0, d1, d2, d3, d4, d5⟩ := at_T25 HC0.out (j : Int) (by omega) (by omega)
        cases e
        have ec : rd_T25 l0 (j : Int) = l0[j] := by unfold rd_T25; rw [Int.toNat_natCast, List.getD_eq_getElem?_getD, List.getElem?_eq_getElem hjl]; rfl
        rw [ec] at d0 d1 d2 d3 d4 d5
        obtain ⟨c, hc⟩ : ∃ c, c = l0[j] := ⟨_, rfl⟩
        rw [← hc] at d0 d1 d2 d3 d4 d5 hpx
        have HCk := Aside0.mk hc
        clear hc ec
        rw [Int.toNat_natCast] at d0 d1 d2 d3 d4 d5
        replace d0 := pw_cell_below hBw d0
        replace d1 := pw_cell_below hBw d1
        replace d2 := pw_cell_below hBw d2
        replace d3 := pw_cell_below hBw d3
        replace d4 := pw_cell_below hBw d4
        replace d5 := pw_cell_below hBw d5
        have HPJ := Aside0.mk hpx
        have y1 : decide (0 ≤ (j : Int)) = true := by simp
        have y2 : decide ((j : Int) < (l0.length : Int)) = true := by simp; exact hjl
        clear hBw hpx hx
        gi_wp2_with fail
        refine wpIn_wide.2 ?_
        refine wp_region_still_tail 14 (by kernel_rfl) (by kernel_rfl) ?_
        simp only [List.take_succ_cons, List.take_zero, List.drop_succ_cons, List.drop_zero]
        iterate 14 still_step
        refine wpStill_nil ?_
        go_wp2_with fail
        refine (HP.out c _ (hG _ _ hGr.out (Lv.drew _ _))).mono ?_
        rintro e w1 ⟨rfl, hb1⟩
        rw [HPJ.out]
        have hJ1 : J xs.length w1 := hJ _ _ _ hJs ((Lv.drew _ wr).trans (Lv.of_below hb1))
        clear hb1 hlW hsW hyW hiW hJs
        go_wp2_with fail
        gi_wp2
        go_end0
        exact ⟨⟨_, rfl⟩, .inl (by rw [List.length_map]; exact hJ1)⟩

def give1 (l : List S25) (kind role : Int) (o : List Int) (i : Nat) : List Int := if (l.getD i z25).f0 = kind then o.set i role else o
def giveS (l : List S25) (kind role : Int) (o : List Int) (xs : List Nat) : List Int := xs.foldl (give1 l kind role) o
theorem give1_length (l : List S25) (kind role : Int) (o : List Int) (i : Nat) : (give1 l kind role o i).length = o.length := by unfold give1; split <;> simp
theorem giveS_length (l : List S25) (kind role : Int) (xs : List Nat) : ∀ o : List Int, (giveS l kind role o xs).length = o.length := by
  induction xs with
  | nil => intro o; rfl
  | cons x xs ih => intro o; rw [giveS, List.foldl_cons, ← giveS, ih, give1_length]
theorem giveS_take (l : List S25) (kind role : Int) (o : List Int) (xs : List Nat) (k : Nat) (h : k < xs.length) : giveS l kind role o (xs.take (k + 1)) = give1 l kind role (giveS l kind role o (xs.take k)) xs[k] := by
  rw [giveS, List.take_succ_eq_append_getElem h, List.foldl_append]; rfl

theorem nums_set (k : IntKind) (o : List Int) (j : Nat) (x : Int) : (nums k (o.set j x)).toArray = (nums k o).toArray.setIfInBounds j (.int k x) := by
  simp [nums, List.map_set]
structure GiveI (w : World) (g bi bL bO : Nat) (A0 : Option Addr) (c0 : Nat) (l0 : List S25) (kind role : Int) (o : List Int) (xs : List Nat) (k : Nat) (W : World) : Prop where
  out : W.heap[g]? = some (.cells (nums .u8 (giveS l0 kind role o (xs.take k))).toArray 5 (0, 0))
  b5 : Boxed W w.heap.size 5 (.int .u8 kind)
  b6 : Boxed W (w.heap.size + 1) 5 (.int .u8 role)
  lv : Lv (fun i => i = g ∨ i = bi) w W

set_option maxRecDepth 100000 in
set_option maxHeartbeats 2000000 in
theorem give_calls (w0 w : World) (hb : Below w0.heap.size w0 w) (A0 : Option Addr) (c0 : Nat) (l0 : List S25) (hC0 : Kd.C k25 w0 A0 l0.length l0) (bL bO g bi : Nat)
    (hL : Boxed w bL 22 (.slice A0 l0.length c0)) (hOb : Boxed w bO 88 (.slice (some ⟨g, 0, none⟩) l0.length l0.length)) (o : List Int) (ho : o.length = l0.length)
    (hg : w.heap[g]? = some (.cells (nums .u8 o).toArray 5 (0, 0))) (hg0 : w0.heap.size ≤ g) (hbi0 : w0.heap.size ≤ bi) (hbi : bi < w.heap.size) (hgi : g ≠ bi) (hLi : bL ≠ bi) (hOi : bO ≠ bi) (hLg : bL ≠ g) (hOg : bO ≠ g)
    (kind role : Int) (lb : Array Value) (xs : List Nat) (hxs : ∀ x ∈ xs, x < l0.length)
    (hseq : ∀ W, Below w.heap.size w W → w.heap.size + 2 = W.heap.size → Seq 3 Try.prog 105 lb (xs.map fun i : Nat => #[Value.int .i64 (i : Int)]) (fun i => i = bi) (fun i => i = g ∨ i = W.heap.size ∨ i = W.heap.size + 1) W) :
    Calls Try.prog 83 #[.int .u8 kind, .int .u8 role, .func (.func 105) #[] lb, .pointer (some ⟨bL, 0, none⟩), .pointer (some ⟨bO, 0, none⟩)] w fun e W' =>
      e = .returned (.tuple #[]) ∧ W'.heap[g]? = some (.cells (nums .u8 (giveS l0 kind role o xs)).toArray 5 (0, 0)) ∧ Lv (fun i => i = g ∨ i = bi) w W' := by
  have HC0 := Aside0.mk hC0
  have HS := Aside0.mk hseq
  have HXS := Aside0.mk hxs
  have HG := Aside0.mk hg
  have HO := Aside0.mk ho
  clear hC0 hseq hxs hg ho
  have hlg : g < w.heap.size := (Array.getElem?_eq_some_iff.1 HG.out).1
  refine (callsIn_wide (n := 7)).1 (callsIn_of_wp_marks Try.func83 rfl trivial ?_ rfl)
  refine wpIn_wide.2 ?_
  simp only [Try.ntmps83, List.size_toArray, List.length_cons, List.length_nil, Nat.reduceAdd, Nat.reduceSub, Array.replicate_succ, Array.replicate_zero, List.push_toArray, List.append_toArray, List.nil_append, List.cons_append]
  go_wp2
  refine wp_name ?_
  intro W0 hW0
  have hsz : W0.heap.size = w.heap.size + 2 := by rw [hW0]; simp
  have b5 : Boxed W0 w.heap.size 5 (.int .u8 kind) := by rw [hW0]; exact (boxed_at rfl).alloc _
  have b6 : Boxed W0 (w.heap.size + 1) 5 (.int .u8 role) := by rw [hW0]; exact boxed_at (by simp)
  have hB0 : Below w.heap.size w W0 := by rw [hW0]; exact below_alloc (below_alloc (Below.refl _ _) _) _
  have hsz1 : W0.heap.size ≤ w.heap.size + 2 := by omega
  have hsz2 : w.heap.size + 2 ≤ W0.heap.size := by omega
  clear hW0 hsz
  apply wp_ranged (m := 3) (gf := 105) (lb := lb) (by simp [go_sem]) (enters_of Try.func105 (by kernel_rfl) rfl)
    xs (fun i : Nat => #[Value.int .i64 (i : Int)]) (fun _ _ => rfl) (fun i => i = bi) (fun i => i = g) ⟨by omega, by omega⟩ (fun _ h => by omega)
    (HS.out W0 hB0 (by omega)) (GiveI w g bi bL bO A0 c0 l0 kind role o xs) (fun _ _ _ => False) ?hI ?hIx ?h0 _ ?assign ?body ?done ?stop
  case hI =>
    rintro k A B ⟨h1, h2, h3, h4⟩ hl
    exact ⟨hl.heap h1 (by omega), boxed_lv hl h2 (by omega), boxed_lv hl h3 (by omega), h4.trans_of hl (fun i _ h => h) (fun i hi h => by omega)⟩
  case hIx => intro c k A B h _; exact h
  case h0 => exact ⟨by rw [hB0.block g hlg]; exact HG.out, b5, b6, (Lv.of_below hB0)⟩
  case assign =>
    intro l x W K _ hK
    gi_wp2
    exact hK
  case body =>
    rintro l k hk W hD ⟨rL, hLp⟩ ⟨h1, h2, h3, h4⟩
    have hfo : Try.prog.follows .mixedOrders = true := by kernel_rfl
    obtain ⟨j, hj⟩ : ∃ j, j = xs[k] := ⟨_, rfl⟩
    rw [← hj]
    have hjl : j < l0.length := by rw [hj]; exact HXS.out _ (List.getElem_mem hk)
    obtain ⟨ad, e, d0, -, -, -, -, -⟩ := at_T25 HC0.out (j : Int) (by omega) (by omega)
    cases e
    have ec : rd_T25 l0 (j : Int) = l0.getD j z25 := by unfold rd_T25; rw [Int.toNat_natCast]
    rw [ec, Int.toNat_natCast] at d0
    have HJ := Aside0.mk hj
    have hBW : Below w0.heap.size w0 W := hb.trans (h4.below hb.size (fun i hi h => by omega))
    replace d0 := pw_cell_below hBW d0
    have l5 := h2.cell
    have l6 := h3.cell
    have lL := (boxed_lv h4 hL (by omega)).cell
    have lO := (boxed_lv h4 hOb (by omega)).cell
    have hgl : (giveS l0 kind role o (xs.take k)).length = l0.length := by rw [giveS_length]; exact HO.out
    have lg := heap_cellAt (i := j) h1
    have fg := heap_frozenAt (i := j) h1
    obtain ⟨ov, hov⟩ : ∃ ov, ov = giveS l0 kind role o (xs.take k) := ⟨_, rfl⟩
    rw [← hov] at hgl lg
    have lg' : W.cell? ⟨g, j, none⟩ = some (.int .u8 (ov.getD j 0)) := by
      rw [lg]; simp [nums, List.getElem?_eq_getElem (show j < ov.length by omega)]
    have HOV := Aside0.mk hov
    have HGL := Aside0.mk hgl
    clear lg hov hgl hj ec hBW
    obtain ⟨x, hx⟩ : ∃ x, x = (l0.getD j z25).f0 := ⟨_, rfl⟩
    rw [← hx] at d0
    have HX := Aside0.mk hx
    clear hx
    by_cases hkd : x = kind
    · have z : (x == kind) = true := by simpa using hkd
      have HK := Aside0.mk (HX.out ▸ hkd)
      clear hkd
      gi_wp2
      gi_region_with_o (fail)
      all_goals gi_wp2
      all_goals
        have hLs : Lv (fun i => i = g) W ((W.setCell ⟨g, j, none⟩ (.int .u8 role)).drew) := (Lv.setCell (O := fun i => i = g) (p := ⟨g, j, none⟩) _ rfl).trans (Lv.drew _ _)
        refine ⟨hLs, ⟨?_, boxed_lv hLs h2 (by omega), boxed_lv hLs h3 (by omega), h4.trans_of hLs (fun i _ h => h) (fun i _ h => .inl h)⟩⟩
        rw [giveS_take _ _ _ _ _ _ hk, ← HJ.out, ← HOV.out, give1, if_pos HK.out, nums_set]
        rw [← HOV.out] at h1
        exact heap_store h1 _
    · have z : (x == kind) = false := by simpa using hkd
      have HK := Aside0.mk (HX.out ▸ hkd)
      clear hkd
      gi_wp2
      gi_region_with_o (fail)
      all_goals gi_wp2
      all_goals
        refine ⟨Lv.drew _ _, ⟨?_, h2, h3, h4.trans (Lv.drew _ _)⟩⟩
        rw [giveS_take _ _ _ _ _ _ hk, ← HJ.out, ← HOV.out, give1, if_neg HK.out]
        rw [← HOV.out] at h1
        exact h1
  case done =>
    rintro W ⟨h1, h2, h3, h4⟩ hD
    rw [List.take_length] at h1
    have hDl : W0.heap.size < W.heap.size := (Array.getElem?_eq_some_iff.1 hD).1
    go_wp2
    refine ⟨by simp, .inl ⟨W0.heap.size, _, rfl, run_takeDeferred hD, ?_⟩⟩
    have hL4 := Lv.putObj (O := fun i => i = W0.heap.size) (A := W) (.deferred none) rfl
    exact ⟨.tuple #[], by simp [results, Try.f83, go_sem], rfl, hL4.heap h1 (by omega), h4.trans_of hL4 (fun i _ h => h) (fun i hi h => by omega)⟩
  case stop => intro c k W _ h; exact h.elim

def edgeB (c : S25) : Bool := c.f0 == 7 || c.f0 == 8 || c.f0 == 5
def blankB (c : S25) : Bool := edgeB c || c.f0 == 1
def hangB (c : S25) : Bool := blankB c || c.f0 == 2
def fromUp (p : S25 → Bool) (l : List S25) : List Nat := (List.range l.length).takeWhile (fun i => p (l.getD i z25))
def fromDown (p : S25 → Bool) (l : List S25) : List Nat := (List.range l.length).reverse.takeWhile (fun i => p (l.getD i z25))
def rolesS (l : List S25) : List Int := giveS l 2 2 (giveS l 1 1 (giveS l 1 1 (List.replicate l.length 0) (fromUp blankB l)) (fromDown blankB l)) (fromDown hangB l)
def trim_Roles.f (l : List S25) : Option (List Int) := if l.length < 4398046511104 then some (rolesS l) else none

theorem edge_f (c : S25) : trim_edge.f c.f0 c.f1 c.f2 c.f3 c.f4 c.f5 = some (edgeB c) := by
  unfold trim_edge.f edgeB
  by_cases h1 : c.f0 = 7 <;> by_cases h2 : c.f0 = 8 <;> simp [h1, h2]
theorem blank_calls (c : S25) (W : World) : Calls Try.prog 84 (#[encC c] ++ #[]) W fun e W' => e = .returned (.bool (blankB c)) ∧ Below W.heap.size W W' := by
  change Calls Try.prog 84 #[encC c] W _
  unfold encC
  have he := edge_f c
  have HE := Aside0.mk he
  clear he
  go_enter Try.func84, Try.ntmps84
  go_wp2_with fail
  refine (trim_edge.calls c.f0 c.f1 c.f2 c.f3 c.f4 c.f5 _ _ HE.out).mono ?_
  rintro e w1 ⟨rfl, hb1⟩
  have hB : Below W.heap.size W w1 := below_step (below_alloc (Below.refl _ W) _) hb1
  have q0 := pw_cell_below hb1 (a := ⟨W.heap.size, 0, none⟩) (v := .int .u8 c.f0) (cell_new rfl)
  have HBB := Aside0.mk hB
  clear hB hb1
  cases hed : edgeB c with
  | true =>
    have HB := Aside0.mk (show blankB c = true by unfold blankB; rw [hed]; rfl)
    clear hed
    go_wp2
    go_ret
    exact ⟨by rw [HB.out]; rfl, HBB.out⟩
  | false =>
    have HB := Aside0.mk (show blankB c = (c.f0 == 1) by unfold blankB; rw [hed]; rfl)
    clear hed
    go_wp2
    go_ret
    exact ⟨by rw [HB.out]; rfl, HBB.out⟩
theorem hang_calls (bb : Nat) (c : S25) (W : World) (hbb : Boxed W bb 94 (.func (.func 84) #[] #[])) : Calls Try.prog 86 (#[encC c] ++ #[.pointer (some ⟨bb, 0, none⟩)]) W fun e W' => e = .returned (.bool (hangB c)) ∧ Below W.heap.size W W' := by
  change Calls Try.prog 86 #[encC c, .pointer (some ⟨bb, 0, none⟩)] W _
  have hl := hbb.lt
  have hc := (hbb.alloc (.cells #[.int .u8 c.f0, .int .i64 c.f1, .int .i64 c.f2, .int .i64 c.f3, .bool c.f4, .bool c.f5] 25)).cell
  unfold encC
  go_enter Try.func86, Try.ntmps86
  go_wp2_with fail
  refine (blank_calls c _).mono ?_
  rintro e w1 ⟨rfl, hb1⟩
  have hB : Below W.heap.size W w1 := below_step (below_alloc (Below.refl _ W) _) hb1
  have q0 := pw_cell_below hb1 (a := ⟨W.heap.size, 0, none⟩) (v := .int .u8 c.f0) (cell_new rfl)
  have HBB := Aside0.mk hB
  clear hB hb1 hc
  cases hed : blankB c with
  | true =>
    have HB := Aside0.mk (show hangB c = true by unfold hangB; rw [hed]; rfl)
    clear hed
    go_wp2
    go_ret
    exact ⟨by rw [HB.out]; rfl, HBB.out⟩
  | false =>
    have HB := Aside0.mk (show hangB c = (c.f0 == 2) by unfold hangB; rw [hed]; rfl)
    clear hed
    go_wp2
    go_ret
    exact ⟨by rw [HB.out]; rfl, HBB.out⟩

theorem from_calls (A0 : Option Addr) (n0 c0 : Nat) (i0 d : Int) (fv : Value) (hfv : ∃ fid cap, fv = .func (.func fid) #[] cap) (w : World) :
    Calls Try.prog 85 #[.slice A0 n0 c0, .int .i64 i0, .int .i64 d, fv] w fun e w' =>
      e = .returned (.func (.func 105) #[] #[.pointer (some ⟨w.heap.size + 1, 0, none⟩), .pointer (some ⟨w.heap.size, 0, none⟩), .pointer (some ⟨w.heap.size + 3, 0, none⟩), .pointer (some ⟨w.heap.size + 2, 0, none⟩)]) ∧
      w' = (((w.alloc (.cells #[.slice A0 n0 c0] 22)).alloc (.cells #[.int .i64 i0] 3)).alloc (.cells #[.int .i64 d] 3)).alloc (.cells #[fv] 94) := by
  obtain ⟨fid, cap, rfl⟩ := hfv
  go_enter Try.func85, Try.ntmps85
  go_wp2
  go_ret
  exact ⟨rfl, rfl⟩

theorem takeWhile_getD (q : Nat → Bool) (L : List Nat) : ∀ k (h : k < (L.takeWhile q).length), ∃ h2 : k < L.length, (L.takeWhile q)[k] = L[k] ∧ q L[k] = true := by
  induction L with
  | nil => intro k h; simp at h
  | cons a L ih =>
    intro k h
    by_cases e : q a = true
    · rw [List.takeWhile_cons_of_pos e] at h
      cases k with
      | zero => exact ⟨by simp, by simp [List.takeWhile_cons_of_pos e], e⟩
      | succ k =>
        obtain ⟨h2, h3, h4⟩ := ih k (by simpa using h)
        exact ⟨by simpa using h2, by simp [List.takeWhile_cons_of_pos e, h3], by simpa using h4⟩
    · rw [List.takeWhile_cons_of_neg e] at h
      simp at h
theorem takeWhile_stop (q : Nat → Bool) (L : List Nat) : (L.takeWhile q).length ≤ L.length ∧ ∀ h : (L.takeWhile q).length < L.length, q (L[(L.takeWhile q).length]'h) = false := by
  induction L with
  | nil => exact ⟨by simp, fun h => by simp at h⟩
  | cons a L ih =>
    by_cases e : q a = true
    · refine ⟨by simp [List.takeWhile_cons_of_pos e]; exact ih.1, fun h => ?_⟩
      have := ih.2 (by simpa [List.takeWhile_cons_of_pos e] using h)
      simpa [List.takeWhile_cons_of_pos e] using this
    · refine ⟨by simp [List.takeWhile_cons_of_neg e], fun h => ?_⟩
      simpa [List.takeWhile_cons_of_neg e] using e
theorem fromUp_S (p : S25 → Bool) (l : List S25) : FromS p l 0 1 (fromUp p l) := by
  unfold fromUp
  refine ⟨fun k h => ?_, ?_⟩
  · obtain ⟨h2, h3, h4⟩ := takeWhile_getD _ _ k h
    have hk : k < l.length := by simpa using h2
    refine ⟨by rw [h3]; simp, by rw [h3]; simpa using hk, ?_⟩
    simp only [h3, List.getElem_range]
    simp only [List.getElem_range, List.getD_eq_getElem?_getD, List.getElem?_eq_getElem hk, Option.getD_some] at h4
    exact h4
  · obtain ⟨h1, h2⟩ := takeWhile_stop (fun i => p (l.getD i z25)) (List.range l.length)
    generalize ((List.range l.length).takeWhile (fun i => p (l.getD i z25))).length = n at h1 h2 ⊢
    by_cases e : n < l.length
    · have h3 := h2 (by simpa using e)
      simp only [List.getElem_range, List.getD_eq_getElem?_getD, List.getElem?_eq_getElem e, Option.getD_some] at h3
      exact .inr (.inr ⟨n, e, by omega, h3⟩)
    · exact .inr (.inl (by omega))
theorem fromDown_S (p : S25 → Bool) (l : List S25) : FromS p l ((l.length : Int) - 1) (-1) (fromDown p l) := by
  unfold fromDown
  have hr : ∀ k (h : k < (List.range l.length).reverse.length), (List.range l.length).reverse[k] = l.length - 1 - k := fun k h => by simp
  refine ⟨fun k h => ?_, ?_⟩
  · obtain ⟨h2, h3, h4⟩ := takeWhile_getD _ _ k h
    have hk : k < l.length := by simpa using h2
    have hk2 : l.length - 1 - k < l.length := by omega
    rw [hr k h2] at h3 h4
    refine ⟨by rw [h3]; omega, by rw [h3]; exact hk2, ?_⟩
    simp only [h3]
    simp only [List.getD_eq_getElem?_getD, List.getElem?_eq_getElem hk2, Option.getD_some] at h4
    exact h4
  · obtain ⟨h1, h2⟩ := takeWhile_stop (fun i => p (l.getD i z25)) (List.range l.length).reverse
    generalize ((List.range l.length).reverse.takeWhile (fun i => p (l.getD i z25))).length = n at h1 h2 ⊢
    by_cases e : n < l.length
    · have h3 := h2 (by simpa using e)
      rw [hr n (by simpa using e)] at h3
      have hk2 : l.length - 1 - n < l.length := by omega
      simp only [List.getD_eq_getElem?_getD, List.getElem?_eq_getElem hk2, Option.getD_some] at h3
      exact .inr (.inr ⟨l.length - 1 - n, hk2, by omega, h3⟩)
    · exact .inl (by simp at h1; omega)

/-- The state of Roles between two calls. -/
structure RS (w W : World) (A0 : Option Addr) (c0 : Nat) (l0 : List S25) (o : List Int) : Prop where
  bL : Boxed W w.heap.size 22 (.slice A0 l0.length c0)
  g : W.heap[w.heap.size + 1]? = some (.cells (nums .u8 o).toArray 5 (0, 0))
  bO : Boxed W (w.heap.size + 1 + 1) 88 (.slice (some ⟨w.heap.size + 1, 0, none⟩) l0.length l0.length)
  bB : Boxed W (w.heap.size + 1 + 1 + 1) 94 (.func (.func 84) #[] #[])
  below : Below w.heap.size w W
  len : o.length = l0.length
theorem RS.lv {w W W' : World} {A0 : Option Addr} {c0 : Nat} {l0 : List S25} {o : List Int} {O : Nat → Prop} (h : RS w W A0 c0 l0 o) (hl : Lv O W W') (hO : ∀ i, i < w.heap.size + 1 + 1 + 1 + 1 → ¬ O i) : RS w W' A0 c0 l0 o :=
  ⟨boxed_lv hl h.bL (hO _ (by omega)), hl.heap h.g (hO _ (by omega)), boxed_lv hl h.bO (hO _ (by omega)), boxed_lv hl h.bB (hO _ (by omega)), h.below.trans (hl.below h.below.size (fun i hi => hO i (by omega))), h.len⟩

theorem give_step (w W : World) (A0 : Option Addr) (c0 : Nat) (l0 : List S25) (o : List Int) (hC0 : Kd.C k25 w A0 l0.length l0) (hS : RS w W A0 c0 l0 o) (i0 d : Int) (fid : Nat) (cap : Array Value) (p : S25 → Bool)
    (eg : ∀ args w, (callFunc fid args).run Try.prog w = .ok (.enter fid args) w)
    (hp : ∀ c W, Boxed W (w.heap.size + 1 + 1 + 1) 94 (.func (.func 84) #[] #[]) → Calls Try.prog fid (#[encC c] ++ cap) W fun e W' => e = .returned (.bool (p c)) ∧ Below W.heap.size W W')
    (xs : List Nat) (hd : d = 1 ∨ d = -1) (hxs : FromS p l0 i0 d xs) (hlen : l0.length < 4398046511104) (hi0 : -1 ≤ i0) (hi1 : i0 < 4611686018427387904) (kind role : Int)
    (bi bl bs bb : Nat) (hbi : bi = W.heap.size + 1) (hbl : bl = W.heap.size) (hbs : bs = W.heap.size + 3) (hbb : bb = W.heap.size + 2) :
    Calls Try.prog 83 #[.int .u8 kind, .int .u8 role, .func (.func 105) #[] #[.pointer (some ⟨bi, 0, none⟩), .pointer (some ⟨bl, 0, none⟩), .pointer (some ⟨bs, 0, none⟩), .pointer (some ⟨bb, 0, none⟩)], .pointer (some ⟨w.heap.size, 0, none⟩), .pointer (some ⟨w.heap.size + 1 + 1, 0, none⟩)]
      ((((W.alloc (.cells #[.slice A0 l0.length c0] 22)).alloc (.cells #[.int .i64 i0] 3)).alloc (.cells #[.int .i64 d] 3)).alloc (.cells #[.func (.func fid) #[] cap] 94)) fun e W' =>
      e = .returned (.tuple #[]) ∧ RS w W' A0 c0 l0 (giveS l0 kind role o xs) := by
  subst hbi hbl hbs hbb
  obtain ⟨W4, hW4⟩ : ∃ W4, W4 = (((W.alloc (.cells #[.slice A0 l0.length c0] 22)).alloc (.cells #[.int .i64 i0] 3)).alloc (.cells #[.int .i64 d] 3)).alloc (.cells #[.func (.func fid) #[] cap] 94) := ⟨_, rfl⟩
  have hsz : W4.heap.size = W.heap.size + 4 := by rw [hW4]; simp
  have x1 : Boxed W4 W.heap.size 22 (.slice A0 l0.length c0) := by rw [hW4]; exact (((boxed_at rfl).alloc _).alloc _).alloc _
  have x2 : Boxed W4 (W.heap.size + 1) 3 (.int .i64 i0) := by rw [hW4]; exact ((boxed_at (by simp)).alloc _).alloc _
  have x3 : Boxed W4 (W.heap.size + 2) 3 (.int .i64 d) := by rw [hW4]; exact (boxed_at (by simp)).alloc _
  have x4 : Boxed W4 (W.heap.size + 3) 94 (.func (.func fid) #[] cap) := by rw [hW4]; exact boxed_at (by simp)
  have hl4 : Lv (fun _ => False) W W4 := by rw [hW4]; exact (((Lv.alloc _ _ _).trans (Lv.alloc _ _ _)).trans (Lv.alloc _ _ _)).trans (Lv.alloc _ _ _)
  rw [← hW4]
  have hS4 := hS.lv hl4 (fun i _ h => h)
  have hbs : w.heap.size + 1 + 1 + 1 < W.heap.size := hS.bB.lt
  clear hW4
  refine (give_calls w W4 hS4.below A0 c0 l0 hC0 w.heap.size (w.heap.size + 1 + 1) (w.heap.size + 1) (W.heap.size + 1) hS4.bL hS4.bO o hS4.len hS4.g (by omega) (by omega) (by omega) (by omega) (by omega) (by omega) (by omega) (by omega) kind role _ xs (fun x hx => ?_) (fun W5 hb5 hs5 => ?_)).mono ?_
  · obtain ⟨k, hk, rfl⟩ := List.getElem_of_mem hx
    exact (hxs.at_ k hk).2.1
  · have y : ∀ {b t : Nat} {v : Value}, Boxed W4 b t v → Boxed W5 b t v := fun h => boxed_lv (O := fun _ => False) (Lv.of_below hb5) h (fun h => h)
    exact from_seq 2 w W5 (hS4.below.trans (hb5.mono hS4.below.size)) A0 c0 l0 i0 d fid cap hC0 (W.heap.size + 1) W.heap.size (W.heap.size + 3) (W.heap.size + 2) (y x2) (y x1) (y x4) (y x3) _ (by omega) (by omega) (by omega) (by omega) (fun i hi => by omega) (by omega) (by omega) (by omega) (by omega)
      p (fun W => Boxed W (w.heap.size + 1 + 1 + 1) 94 (.func (.func 84) #[] #[])) (fun A B hA hAB => boxed_lv hAB hA (by omega)) (y hS4.bB) eg hp xs hd hxs (by omega) hi0 hi1
  · rintro e W' ⟨rfl, hg, hl⟩
    have hS5 : RS w W' A0 c0 l0 (giveS l0 kind role o xs) :=
      ⟨boxed_lv hl hS4.bL (by omega), hg, boxed_lv hl hS4.bO (by omega), boxed_lv hl hS4.bB (by omega), hS4.below.trans (hl.below hS4.below.size (fun i hi => by omega)), by rw [giveS_length]; exact hS4.len⟩
    exact ⟨rfl, hS5⟩

theorem infoB : (Try.prog.info? 5).map (fun i => (i.zero, i.size, i.bytes)) = some (some (.int .u8 0), 1, 1) := by kernel_rfl
set_option maxRecDepth 100000 in
set_option maxHeartbeats 4000000 in
theorem trim_Roles.calls (A0 : Option Addr) (c0 : Nat) (l0 : List S25) (r : List Int) (w : World) (hr0 : Kd.C k25 w A0 l0.length l0) (hc0 : l0.length ≤ c0) (h : trim_Roles.f l0 = some r) :
    Calls Try.prog 49 #[.slice A0 l0.length c0] w fun e w' => ∃ v0_ : Value, e = .returned v0_ ∧ Kd.R (Kd.int .u8) 5 w' w.heap.size (fun _ => True) v0_ r ∧ Below w.heap.size w w' := by
  have HC0 := Aside0.mk hr0
  have hh : l0.length < 4398046511104 ∧ r = rolesS l0 := by
    unfold trim_Roles.f at h
    by_cases e : l0.length < 4398046511104
    · rw [if_pos e] at h; exact ⟨e, (Option.some.inj h).symm⟩
    · rw [if_neg e] at h; cases h
  obtain ⟨hlen, hr⟩ := hh
  have HR := Aside0.mk hr
  clear h hr0 hr
  have hmk := print_make (P := Try.prog) 88 5 .u8 1 Try.underlying88 infoB (by decide) l0.length (by omega)
  go_enter Try.func49, Try.ntmps49
  go_wp2_with (go_at_call 85; refine (from_calls _ _ _ _ _ _ ⟨84, #[], rfl⟩ _).mono ?_; rintro e w' ⟨rfl, rfl⟩)
  have hM : (madeCells #[.int .u8 0] l0.length) = (nums .u8 (List.replicate l0.length 0)).toArray := by
    apply Array.ext
    · simp [size_madeCells, nums]
    · intro i h1 h2
      simp [madeCells, nums, Nat.mod_one]
  rw [hM]
  refine (give_step w _ A0 c0 l0 (List.replicate l0.length 0) HC0.out ⟨(((boxed_at rfl).alloc _).alloc _).alloc _, ?_, (boxed_at (by simp)).alloc _, boxed_at (by simp), below_alloc (below_alloc (below_alloc (below_alloc (Below.refl _ _) _) _) _) _, by simp⟩ 0 1 84 #[] blankB (enters_of Try.func84 (by kernel_rfl) rfl) (fun c W _ => blank_calls c W) _ (.inl rfl) (fromUp_S _ _) hlen (by omega) (by omega) 1 1 _ _ _ _ (by simp) (by simp) (by simp) (by simp)).mono ?_
  · have hx : Lv (fun _ => False) ((w.alloc (.cells #[.slice A0 l0.length c0] 22)).alloc (.cells (nums .u8 (List.replicate l0.length 0)).toArray 5)) (((((w.alloc (.cells #[.slice A0 l0.length c0] 22)).alloc (.cells (nums .u8 (List.replicate l0.length 0)).toArray 5)).alloc (.cells #[.slice (some ⟨w.heap.size + 1, 0, none⟩) l0.length l0.length] 88)).alloc (.cells #[.func (.func 84) #[] #[]] 94))) := (Lv.alloc _ _ _).trans (Lv.alloc _ _ _)
    refine hx.heap ?_ (fun h => h)
    have := World.alloc_heap_new (w.alloc (.cells #[.slice A0 l0.length c0] 22)) (.cells (nums .u8 (List.replicate l0.length 0)).toArray 5)
    rwa [World.size_alloc] at this
  rintro e w1 ⟨rfl, hS1⟩
  clear hM
  have u1 := hS1.bL.cell
  have u2 := hS1.bO.cell
  have u3 := hS1.bB.cell
  go_wp2_with (go_at_call 85; refine (from_calls _ _ _ _ _ _ ⟨84, #[], rfl⟩ _).mono ?_; rintro e w' ⟨rfl, rfl⟩)
  refine (give_step w w1 A0 c0 l0 _ HC0.out hS1 ((l0.length : Int) - 1) (-1) 84 #[] blankB (enters_of Try.func84 (by kernel_rfl) rfl) (fun c W _ => blank_calls c W) _ (.inr rfl) (fromDown_S _ _) hlen (by omega) (by omega) 1 1 _ _ _ _ rfl rfl rfl rfl).mono ?_
  rintro e w2 ⟨rfl, hS2⟩
  clear u1 u2 u3 hS1
  have u1 := hS2.bL.cell
  have u2 := hS2.bO.cell
  have u3 := hS2.bB.cell
  go_wp2_with (go_at_call 85; refine (from_calls _ _ _ _ _ _ ⟨86, #[.pointer (some ⟨w.heap.size + 1 + 1 + 1, 0, none⟩)], rfl⟩ _).mono ?_; rintro e w' ⟨rfl, rfl⟩)
  refine (give_step w w2 A0 c0 l0 _ HC0.out hS2 ((l0.length : Int) - 1) (-1) 86 #[.pointer (some ⟨w.heap.size + 1 + 1 + 1, 0, none⟩)] hangB (enters_of Try.func86 (by kernel_rfl) rfl) (fun c W h => hang_calls _ c W h) _ (.inr rfl) (fromDown_S _ _) hlen (by omega) (by omega) 2 2 _ _ _ _ rfl rfl rfl rfl).mono ?_
  rintro e w3 ⟨rfl, hS3⟩
  clear u1 u2 u3 hS2
  have u2 := hS3.bO.cell
  go_wp2
  go_ret
  refine ⟨_, rfl, ?_, hS3.below⟩
  rw [HR.out]
  have hl : (rolesS l0).length = l0.length := hS3.len
  have hg : w3.heap[w.heap.size + 1]? = some (.cells (nums .u8 (rolesS l0)).toArray 5 (0, 0)) := hS3.g
  generalize rolesS l0 = q at hl hg
  refine Kd.R_of_own (enc := Value.int .u8) (h1 := fun _ => rfl) ?_ (fun _ _ => trivial)
  rw [hl]
  exact ⟨by simp [encs, hl], .inr ⟨w.heap.size + 1, l0.length, _, rfl, by omega, hg, Nat.le_refl _, by simp only [maxLen]; omega, by simp [nums, hl], by simp only [nums, encs, Nat.mul_one]; exact List.take_of_length_le (by simp [hl])⟩⟩
end

/-! ### trim_Fits: function 17 -/
-- needs func trim.Roles tabs.End
section
open Go.Proofs.Ytkcmehijmgjgfaa.It Go.Shelf
def unh (r : Int) : Int := if r = 2 then 1 else r
def unhang (o : List Int) : List Int := o.map unh
def midS (o : List Int) (k : Nat) : List Int := (o.take k).map unh ++ o.drop k
def trim_Fits.f (l : List S25) (x : Int) : Option (Int × Int) := (trim_Roles.f l).bind fun r => tabs_End.f l (unhang r) x
theorem midS_length (o : List Int) (k : Nat) : (midS o k).length = o.length := by simp [midS]; omega
theorem midS_at (o : List Int) (k : Nat) (h : k < o.length) : rd (midS o k) k = rd o k := by
  simp [rd, midS, List.getD_eq_getElem?_getD, List.getElem?_append, Nat.min_eq_left (Nat.le_of_lt h)]
theorem midS_succ (o : List Int) (k : Nat) (h : k < o.length) : midS o (k + 1) = (midS o k).set k (unh (rd o k)) := by
  have e : rd o k = o[k] := by simp [rd, List.getD_eq_getElem?_getD, List.getElem?_eq_getElem h]
  rw [e]
  unfold midS
  have h1 : o.drop k = o[k] :: o.drop (k + 1) := List.drop_eq_getElem_cons h
  have h2 : ((o.take k).map unh).length = k := by simp; omega
  rw [List.take_succ_eq_append_getElem h, List.map_append, List.set_append, if_neg (by omega), h2, Nat.sub_self, h1, List.set_cons_zero, List.append_assoc]
  rfl
theorem midS_same (o : List Int) (k : Nat) (h : k < o.length) (h2 : rd o k ≠ 2) : midS o (k + 1) = midS o k := by
  rw [midS_succ o k h, unh, if_neg h2]
  have := midS_at o k h
  apply List.ext_getElem
  · simp
  · intro i h1 h3
    rw [List.getElem_set]
    split
    · rename_i e; subst e
      rw [← this]
      simp [rd, List.getD_eq_getElem?_getD, List.getElem?_eq_getElem h3]
    · rfl
theorem trim_Roles_len {l : List S25} {r : List Int} (h : trim_Roles.f l = some r) : r.length = l.length ∧ l.length < 4398046511104 := by
  unfold trim_Roles.f at h
  by_cases e : l.length < 4398046511104
  · rw [if_pos e] at h
    obtain rfl := Option.some.inj h
    exact ⟨by unfold rolesS; simp [giveS_length], e⟩
  · rw [if_neg e] at h; cases h

set_option maxRecDepth 100000 in
set_option maxHeartbeats 2000000 in
theorem trim_Fits.calls (A0 : Option Addr) (c0 : Nat) (l0 : List S25) (a1 r1 r2 : Int) (w : World) (hr0 : Kd.C k25 w A0 l0.length l0) (hc0 : l0.length ≤ c0) (h : trim_Fits.f l0 a1 = some (r1, r2)) :
    Calls Try.prog 17 #[.slice A0 l0.length c0, .int .i64 a1] w fun e w' => e = .returned (.tuple #[.int .i64 r1, .int .i64 r2]) ∧ Below w.heap.size w w' := by
  obtain ⟨o, ho, hend⟩ := Option.bind_eq_some_iff.1 h
  obtain ⟨hol, hlen⟩ := trim_Roles_len ho
  have HE := Aside0.mk hend
  have HO := Aside0.mk ho
  have HC0 := Aside0.mk hr0
  have HOL := Aside0.mk hol
  have hol1 : o.length < 4398046511104 := by omega
  clear h hend ho hr0 hol
  go_enter Try.func17, Try.ntmps17
  go_wp2_with fail
  refine (trim_Roles.calls A0 c0 l0 o _ HC0.out hc0 HO.out).mono ?_
  rintro e w1 ⟨v, rfl, hR, hB⟩
  have hown := Kd.own_of_R hR
  obtain ⟨Av, cv, hv⟩ := own_slice hown
  subst hv
  have HOW := Aside0.mk hown
  have HB := Aside0.mk hB
  clear hR hown hB
  go_wp2_with fail
  go_loopw [13] (fun i wr => ∃ (k : Nat), k ≤ o.length ∧ i = .int .i64 k ∧ Aside0 (wr.ownsRow w.heap.size 5 1 (.slice Av o.length cv) o.length (nums .u8 (midS o k))) ∧ Aside0 (Below w.heap.size w wr))
    (fun i _ => o.length - (intOf i).toNat)
  case atStart => exact ⟨0, by omega, rfl, ⟨by simpa [midS, nums, encs] using HOW.out⟩, ⟨HB.out⟩⟩
  case round =>
    obtain ⟨k, hk, rfl, HOk, HBk⟩ := hrel
    by_cases hlt : k < o.length
    · obtain ⟨g, cap, hv, hb0, _⟩ := HOk.out.form (by omega)
      cases hv
      have hat := own_at HOk.out (k : Int) (by omega) (by omega)
      rw [midS_at o k hlt, Int.toNat_natCast] at hat
      obtain ⟨x, hx⟩ : ∃ x, x = rd o k := ⟨_, rfl⟩
      rw [← hx] at hat
      have HX := Aside0.mk hx
      clear hx
      obtain ⟨c1, c2⟩ := hat
      by_cases h2 : x = 2
      · have z : (x == 2) = true := by simpa using h2
        have H2 := Aside0.mk h2
        have HS := Aside0.mk (own_store HOk.out (k : Int) 1)
        clear h2
        go_wp2
        go_roundw
        case rel =>
          refine ⟨k + 1, by omega, by go_num, ⟨?_⟩, ⟨HBk.out.setCell (p := ⟨g, k, none⟩) hb0 _⟩⟩
          have h3 := HS.out.1
          rw [Int.toNat_natCast] at h3
          rw [midS_succ o k hlt, ← HX.out, H2.out]
          exact h3
        case measure => simp [intOf]; omega
      · have z : (x == 2) = false := by simpa using h2
        have H2 := Aside0.mk h2
        clear h2
        go_wp2
        go_roundw
        case rel => exact ⟨k + 1, by omega, by go_num, ⟨by rw [midS_same o k hlt (by rw [← HX.out]; exact H2.out)]; exact HOk.out⟩, ⟨HBk.out⟩⟩
        case measure => simp [intOf]; omega
    · obtain rfl : k = o.length := by omega
      have hm : midS o o.length = unhang o := by simp [midS, unhang]
      have hR : Kd.R (Kd.int .u8) 5 wr w.heap.size (fun _ => True) (.slice Av o.length cv) (unhang o) := by
        have h3 := HOk.out
        rw [hm] at h3
        exact Kd.R_of_own (enc := Value.int .u8) (h1 := fun _ => rfl) (by simpa [unhang, nums, encs] using h3) (fun _ _ => trivial)
      have hul : (unhang o).length = o.length := by simp [unhang]
      obtain ⟨q1, q2, q3⟩ := Kd.R_reads' hR
      have hc := tabs_End.calls A0 c0 l0 Av cv (unhang o) a1 r1 r2 wr (Kd.C_below HC0.out HBk.out) hc0 q3 (by omega) HE.out
      rw [hul] at hc
      have HCALL := Aside0.mk hc
      clear hm hR hul q1 q2 q3 hc
      go_wp2_with fail
      refine HCALL.out.mono ?_
      rintro e w3 ⟨rfl, hb3⟩
      have HB3 := Aside0.mk (below_step HBk.out hb3)
      clear hb3
      go_wp2
      go_ret2
      exact ⟨rfl, HB3.out⟩
end

/-! ### trim_Blank: function 20 -/
def trim_Blank.l0 : Nat → List (S25) → List Int → Int → Int → Option (Bool)
  | 0, _, _, _, _ => none
  | k + 1, x0, x6, x7, x8 => if x8 < x7 then (if 0 ≤ x8 then (if x8 < (x6.length : Int) then (if (rd x6 x8) = 1 then (trim_Blank.l0 k x0 x6 x7 (wrap64 (x8 + 1))) else (if x8 < (x0.length : Int) then ((trim_edge.f ((rd_T25 x0 x8).f0) ((rd_T25 x0 x8).f1) ((rd_T25 x0 x8).f2) ((rd_T25 x0 x8).f3) ((rd_T25 x0 x8).f4) ((rd_T25 x0 x8).f5)).bind fun t136 => (if t136 = true then (trim_Blank.l0 k x0 x6 x7 (wrap64 (x8 + 1))) else (some false))) else (none))) else (none)) else (none)) else (some true)
def trim_Blank.f (k : Nat) (l0 : List (S25)) : Option (Bool) := (trim_Roles.f l0).bind fun t131 => (trim_Blank.l0 k l0 t131 (t131.length : Int) 0)
theorem trim_Blank.mono_l : ∀ k, (∀ y0 y1 y2 y3, LeO (trim_Blank.l0 k y0 y1 y2 y3) (trim_Blank.l0 (k + 1) y0 y1 y2 y3))
  | 0 => fun _ _ _ _ r h => by simp [trim_Blank.l0] at h
  | k + 1 => by
    have ih0 := trim_Blank.mono_l k
    · intro y0 y1 y2 y3
      unfold trim_Blank.l0
      repeat' first
      | (with_reducible exact ih0 _ _ _ _)
      | (with_reducible exact LeO.refl _)
      | (with_reducible exact LeO.none _)
      | (with_reducible refine LeO.ite ?_ ?_)
      | (with_reducible refine LeO.bind ?_ (fun _ => ?_))
      | exact ih0 _ _ _ _
      | exact LeO.none _
      | refine LeO.ite ?_ ?_
      | refine LeO.bind ?_ (fun _ => ?_)
theorem trim_Blank.mono : ∀ a0 k, LeO (trim_Blank.f k a0) (trim_Blank.f (k + 1) a0) := by
  intro a0 k
  have ih0 := trim_Blank.mono_l k
  unfold trim_Blank.f
  repeat' first
      | (with_reducible exact ih0 _ _ _ _)
      | (with_reducible exact LeO.refl _)
      | (with_reducible exact LeO.none _)
      | (with_reducible refine LeO.ite ?_ ?_)
      | (with_reducible refine LeO.bind ?_ (fun _ => ?_))
      | exact ih0 _ _ _ _
      | exact LeO.none _
      | refine LeO.ite ?_ ?_
      | refine LeO.bind ?_ (fun _ => ?_)
set_option maxHeartbeats 8000000 in
set_option maxRecDepth 100000 in
theorem trim_Blank.calls (k : Nat) (A0 : Option Addr) (c0 : Nat) (l0 : List (S25)) (r : Bool) (w : World) (hr0 : Kd.C k25 w A0 l0.length l0) (hc0 : l0.length ≤ c0) (h : trim_Blank.f k l0 = some r) :
    Calls Try.prog 20 #[.slice A0 l0.length c0] w fun e w' => e = .returned (.bool r) ∧ Below w.heap.size w w' := by
  have hu25 := Try.underlying25
  have HR0 := Aside0.mk hr0
  have HC0 := Aside0.mk hc0
  clear hr0 hc0
  have HB := Aside0.mk (Below.refl w.heap.size w)
  have H : ((trim_Roles.f l0).bind fun t131 => (trim_Blank.l0 k l0 t131 (t131.length : Int) 0)) = some r := h
  clear h
  replace H := Option.bind_eq_some_iff.mp H
  obtain ⟨t131, A20, H⟩ := H
  replace H : (trim_Blank.l0 k l0 t131 (t131.length : Int) 0) = some r := H
  have A2 := Aside0.mk A20
  clear A20
  have H' := Aside0.mk H
  clear H
  go_enter Try.func20, Try.ntmps20
  go_wp2_with (first | ((with_reducible refine gate_callee (f := 49) rfl ?_); refine goesL_ (some 6) rfl rfl Try.func49 (by kernel_rfl) rfl #[.slice A0 l0.length c0] rfl (by (try simp only [List.map_toArray, List.map_cons, List.map_nil]); first | done | rfl | (simp only [List.length_drop, List.length_take]; rfl)) ?_; (with_reducible refine (trim_Roles.calls _ _ l0 t131 _ ?side1 ?side2 A2.out).mono ?_); (case side1 => repeat (first | exact HR0.out | (with_reducible refine Kd.C_alloc ?_ _) | (with_reducible refine Kd.C_drewN ?_ _) | (with_reducible refine Kd.C_drew ?_))); (case side2 => exact HC0.out); rintro e w3 ⟨v132, rfl, ho0, hb⟩; refine ⟨_, rfl, ?_⟩; have n0_ := Aside0.mk (Kd.R_lower ho0 (below_size (by repeat (first | (with_reducible first | exact HB.out | apply below_alloc | apply pw_below_drewN | apply below_drew1) | exact HB.out)))); have n1_ := Aside0.mk (below_step (by repeat (first | (with_reducible first | exact HB.out | apply below_alloc | apply pw_below_drewN | apply below_drew1) | exact HB.out)) hb); clear HB; have HO133 := n0_; have HB := n1_; clear n0_ n1_; (try clear hb); (try clear hb2); (try clear hk); (try clear hi); (try clear ho0); obtain ⟨Ao4, co4, eo4⟩ := Kd.R_slice HO133.out; subst eo4))
  go_loopg [8] k (fun kq v8 w' => ∃ (x8_1 : Int), v8 = .int .i64 x8_1 ∧ Aside0 (trim_Blank.l0 kq l0 t131 (t131.length : Int) x8_1 = some r) ∧ Aside0 (kq ≤ k) ∧ Aside0 (Kd.R (Kd.int .u8) 5 w' w.heap.size (fun _ => True) (.slice Ao4 t131.length co4) t131) ∧ Aside0 (Below w.heap.size w w'))
  case atStart => exact ⟨(0), (by first | rfl | (simp; done) | (simp [*]; done)), H', ⟨Nat.le_refl _⟩, ⟨by (with_reducible repeat (first | apply Kd.R_alloc | apply Kd.R_drewN | apply Kd.R_drew)); exact HO133.out⟩, ⟨by repeat (first | (with_reducible first | exact HB.out | apply below_alloc | apply pw_below_drewN | apply below_drew1) | exact HB.out)⟩⟩
  case round =>
    clear H'
    try clear c2
    try clear p2
    try clear c4
    obtain ⟨x8_1, rfl, HA, HK1, HO_6, HB⟩ := hrel
    cases gk with
    | zero => exact absurd HA.out (by simp [trim_Blank.l0])
    | succ k1 =>
      have H := HA.out
      clear HA
      simp only [trim_Blank.l0] at H
      by_cases c5 : x8_1 < (t131.length : Int)
      · rw [if_pos c5] at H
        have c5b0 : decide (x8_1 < (t131.length : Int)) = true := decide_eq_true c5
        clear c5
        by_cases c6 : 0 ≤ x8_1
        · rw [if_pos c6] at H
          have c6b0 : decide (0 ≤ x8_1) = true := decide_eq_true c6
          clear c6
          by_cases c7 : x8_1 < (t131.length : Int)
          · rw [if_pos c7] at H
            have c7b0 : decide (x8_1 < (t131.length : Int)) = true := decide_eq_true c7
            clear c7
            by_cases c8 : (rd t131 x8_1) = 1
            · rw [if_pos c8] at H
              have c8b0 : ((rd t131 x8_1) == 1) = true := beq_iff_eq.mpr c8
              have c8b1 : ((rd t131 x8_1) != 1) = false := bne_eq_false_iff_eq.mpr c8
              clear c8
              have H' := Aside0.mk H
              clear H
              have p134 : 0 ≤ (x8_1 : Int) := of_decide_eq_true (by first | (with_reducible assumption) | assumption)
              have q134 : x8_1 < (t131.length : Int) := of_decide_eq_true (by first | (with_reducible assumption) | assumption)
              obtain ⟨ad134, e134, hx134_0⟩ := Kd.at_int (Kd.R_reads' HO_6.out).2.2 x8_1 p134 q134
              cases e134
              replace p134 := eq_true p134
              replace q134 := eq_true q134
              go_wp2
              go_roundg k1
              case measure => have := HK1.out; omega
              case rel => exact ⟨(wrap64 (x8_1 + 1)), (by first | rfl | (simp; done) | (simp [*]; done)), H', ⟨by have := HK1.out; omega⟩, ⟨by (with_reducible repeat (first | apply Kd.R_alloc | apply Kd.R_drewN | apply Kd.R_drew)); exact HO_6.out⟩, ⟨by repeat (first | (with_reducible first | exact HB.out | apply below_alloc | apply pw_below_drewN | apply below_drew1) | exact HB.out)⟩⟩
            · rw [if_neg c8] at H
              have c8b0 : ((rd t131 x8_1) == 1) = false := beq_eq_false_iff_ne.mpr c8
              have c8b1 : ((rd t131 x8_1) != 1) = true := bne_iff_ne.mpr c8
              by_cases c9 : x8_1 < (l0.length : Int)
              · rw [if_pos c9] at H
                have c9b0 : decide (x8_1 < (l0.length : Int)) = true := decide_eq_true c9
                clear c9
                replace H := Option.bind_eq_some_iff.mp H
                obtain ⟨t136, A100, H⟩ := H
                replace H : (if t136 = true then (trim_Blank.l0 k1 l0 t131 (t131.length : Int) (wrap64 (x8_1 + 1))) else (some false)) = some r := H
                have A10 := Aside0.mk A100
                clear A100
                by_cases c11 : t136 = true
                · subst c11
                  have H1 : (trim_Blank.l0 k1 l0 t131 (t131.length : Int) (wrap64 (x8_1 + 1))) = some r := by rw [if_pos rfl] at H; exact H
                  clear H
                  have H := H1
                  clear H1
                  have H' := Aside0.mk H
                  clear H
                  have p134 : 0 ≤ (x8_1 : Int) := of_decide_eq_true (by first | (with_reducible assumption) | assumption)
                  have q134 : x8_1 < (t131.length : Int) := of_decide_eq_true (by first | (with_reducible assumption) | assumption)
                  obtain ⟨ad134, e134, hx134_0⟩ := Kd.at_int (Kd.R_reads' HO_6.out).2.2 x8_1 p134 q134
                  cases e134
                  replace p134 := eq_true p134
                  replace q134 := eq_true q134
                  have p135 : 0 ≤ (x8_1 : Int) := of_decide_eq_true (by first | (with_reducible assumption) | assumption)
                  have q135 : x8_1 < (l0.length : Int) := of_decide_eq_true (by first | (with_reducible assumption) | assumption)
                  obtain ⟨ad135, e135, hx135_0, hx135_1, hx135_2, hx135_3, hx135_4, hx135_5⟩ := at_T25 HR0.out x8_1 p135 q135
                  cases e135
                  replace hx135_0 := (HB.out.cell (World.block_lt_of_cell? w _ hx135_0)).trans hx135_0
                  replace hx135_1 := (HB.out.cell (World.block_lt_of_cell? w _ hx135_1)).trans hx135_1
                  replace hx135_2 := (HB.out.cell (World.block_lt_of_cell? w _ hx135_2)).trans hx135_2
                  replace hx135_3 := (HB.out.cell (World.block_lt_of_cell? w _ hx135_3)).trans hx135_3
                  replace hx135_4 := (HB.out.cell (World.block_lt_of_cell? w _ hx135_4)).trans hx135_4
                  replace hx135_5 := (HB.out.cell (World.block_lt_of_cell? w _ hx135_5)).trans hx135_5
                  replace p135 := eq_true p135
                  replace q135 := eq_true q135
                  go_wp2_with (first | (go_at_call 51; (with_reducible refine (trim_edge.calls ((rd_T25 l0 x8_1).f0) ((rd_T25 l0 x8_1).f1) ((rd_T25 l0 x8_1).f2) ((rd_T25 l0 x8_1).f3) ((rd_T25 l0 x8_1).f4) ((rd_T25 l0 x8_1).f5) true _ A10.out).mono ?_); rintro e w12 ⟨rfl, hb⟩; have n0_ := Aside0.mk (Kd.R_below (by (with_reducible repeat (first | apply Kd.R_alloc | apply Kd.R_drewN | apply Kd.R_drew)); exact HO_6.out) hb); have n1_ := Aside0.mk (below_step (by repeat (first | (with_reducible first | exact HB.out | apply below_alloc | apply pw_below_drewN | apply below_drew1) | exact HB.out)) hb); clear HO_6; clear HB; have HO_6 := n0_; have HB := n1_; clear n0_ n1_; (try clear hb); (try clear hb2); (try clear hk); (try clear hi)))
                  go_roundg k1
                  case measure => have := HK1.out; omega
                  case rel => exact ⟨(wrap64 (x8_1 + 1)), (by first | rfl | (simp; done) | (simp [*]; done)), H', ⟨by have := HK1.out; omega⟩, ⟨by (with_reducible repeat (first | apply Kd.R_alloc | apply Kd.R_drewN | apply Kd.R_drew)); exact HO_6.out⟩, ⟨by repeat (first | (with_reducible first | exact HB.out | apply below_alloc | apply pw_below_drewN | apply below_drew1) | exact HB.out)⟩⟩
                · replace c11 := Bool.eq_false_iff.mpr c11
                  subst c11
                  have H1 : (some false) = some r := by rw [if_neg (show ¬ (false = true) by decide)] at H; exact H
                  clear H
                  have H := H1
                  clear H1
                  obtain rfl := Option.some.inj H
                  have p134 : 0 ≤ (x8_1 : Int) := of_decide_eq_true (by first | (with_reducible assumption) | assumption)
                  have q134 : x8_1 < (t131.length : Int) := of_decide_eq_true (by first | (with_reducible assumption) | assumption)
                  obtain ⟨ad134, e134, hx134_0⟩ := Kd.at_int (Kd.R_reads' HO_6.out).2.2 x8_1 p134 q134
                  cases e134
                  replace p134 := eq_true p134
                  replace q134 := eq_true q134
                  have p135 : 0 ≤ (x8_1 : Int) := of_decide_eq_true (by first | (with_reducible assumption) | assumption)
                  have q135 : x8_1 < (l0.length : Int) := of_decide_eq_true (by first | (with_reducible assumption) | assumption)
                  obtain ⟨ad135, e135, hx135_0, hx135_1, hx135_2, hx135_3, hx135_4, hx135_5⟩ := at_T25 HR0.out x8_1 p135 q135
                  cases e135
                  replace hx135_0 := (HB.out.cell (World.block_lt_of_cell? w _ hx135_0)).trans hx135_0
                  replace hx135_1 := (HB.out.cell (World.block_lt_of_cell? w _ hx135_1)).trans hx135_1
                  replace hx135_2 := (HB.out.cell (World.block_lt_of_cell? w _ hx135_2)).trans hx135_2
                  replace hx135_3 := (HB.out.cell (World.block_lt_of_cell? w _ hx135_3)).trans hx135_3
                  replace hx135_4 := (HB.out.cell (World.block_lt_of_cell? w _ hx135_4)).trans hx135_4
                  replace hx135_5 := (HB.out.cell (World.block_lt_of_cell? w _ hx135_5)).trans hx135_5
                  replace p135 := eq_true p135
                  replace q135 := eq_true q135
                  go_wp2_with (first | (go_at_call 51; (with_reducible refine (trim_edge.calls ((rd_T25 l0 x8_1).f0) ((rd_T25 l0 x8_1).f1) ((rd_T25 l0 x8_1).f2) ((rd_T25 l0 x8_1).f3) ((rd_T25 l0 x8_1).f4) ((rd_T25 l0 x8_1).f5) false _ A10.out).mono ?_); rintro e w13 ⟨rfl, hb⟩; have n0_ := Aside0.mk (Kd.R_below (by (with_reducible repeat (first | apply Kd.R_alloc | apply Kd.R_drewN | apply Kd.R_drew)); exact HO_6.out) hb); have n1_ := Aside0.mk (below_step (by repeat (first | (with_reducible first | exact HB.out | apply below_alloc | apply pw_below_drewN | apply below_drew1) | exact HB.out)) hb); clear HO_6; clear HB; have HO_6 := n0_; have HB := n1_; clear n0_ n1_; (try clear hb); (try clear hb2); (try clear hk); (try clear hi)))
                  go_ret
                  exact ⟨by first | rfl | (simp [errW_none, errW_some] <;> rfl) | (simp [*, errW_none, errW_some] <;> rfl), by repeat (first | (with_reducible first | exact HB.out | apply below_alloc | apply pw_below_drewN | apply below_drew1) | exact HB.out)⟩
              · rw [if_neg c9] at H
                exact absurd H (by simp)
          · rw [if_neg c7] at H
            exact absurd H (by simp)
        · rw [if_neg c6] at H
          exact absurd H (by simp)
      · rw [if_neg c5] at H
        have c5b0 : decide (x8_1 < (t131.length : Int)) = false := decide_eq_false c5
        clear c5
        obtain rfl := Option.some.inj H
        go_wp2
        go_ret
        exact ⟨by first | rfl | (simp [errW_none, errW_some] <;> rfl) | (simp [*, errW_none, errW_some] <;> rfl), by repeat (first | (with_reducible first | exact HB.out | apply below_alloc | apply pw_below_drewN | apply below_drew1) | exact HB.out)⟩

end Go.Proofs.Ytkcmehijmgjgfaa.MFillForced
