-- Written by a program of this session for this claim.
import Derived.Test.YtkcmehijmgjgfaaMFillForcedx0
import Derived.Test.YtkcmehijmgjgfaaMFillForcedx4
import Derived.Test.YtkcmehijmgjgfaaMFillForcedx5
namespace Go.Proofs.Ytkcmehijmgjgfaa.MFillForced
open Go.RowKit Go.Proofs.YtkcmehijmgjgfaaW.PrintWords Go.Proofs.YtkcmehijmgjgfaaW.PrintLast Go.Proofs.YtkcmehijmgjgfaaW.PrintMore
attribute [local go_sem] max2_int min2_int max_two min_two max_three min_three max_four min_four   -- for this text's walks alone
set_option linter.unusedVariables false
set_option linter.unusedSimpArgs false

attribute [local irreducible] Go.wpStill Go.wpQuiet
/-! ### fill_Ends: function 34 -/
-- needs func trim.Blank fill.may fill.last fill.soft fill.emergency
section
theorem fe_wr1 (i : Nat) (h : i < 4611686018427387904) : wrap64 ((i : Int) + 1) = ((i + 1 : Nat) : Int) := by unfold wrap64; omega
theorem fe_rd25 (l : List S25) (i : Nat) : rd_T25 l (i : Int) = l.getD i z25 := by unfold rd_T25; rw [Int.toNat_natCast]
theorem fe_get (l : List S25) (i : Nat) (h : i < l.length) : l.getD i z25 = l[i] := by rw [List.getD_eq_getElem?_getD, List.getElem?_eq_getElem h]; rfl
/-- Is nothing but edges left of a line? -/
def blkS (l : List S25) : Bool := (List.range l.length).all fun i => (rolesS l).getD i 0 == 1 || edgeB (l.getD i z25)
theorem fe_rolesS_len (l : List S25) : (rolesS l).length = l.length := by unfold rolesS; simp [giveS_length]
theorem blank_l0 (l : List S25) (hl : l.length < 4398046511104) : ∀ (d k i : Nat), i ≤ l.length → l.length - i = d → d < k →
    trim_Blank.l0 k l (rolesS l) (l.length : Int) (i : Int) = some (((List.range l.length).drop i).all fun i => (rolesS l).getD i 0 == 1 || edgeB (l.getD i z25))
  | 0, k, i, hi, hd, hk => by
    obtain ⟨k, rfl⟩ : ∃ m, k = m + 1 := ⟨k - 1, by omega⟩
    rw [trim_Blank.l0, if_neg (by omega), List.drop_eq_nil_of_le (by simp; omega)]; rfl
  | d + 1, k, i, hi, hd, hk => by
    obtain ⟨k, rfl⟩ : ∃ m, k = m + 1 := ⟨k - 1, by omega⟩
    have hil : i < l.length := by omega
    have hr := fe_rolesS_len l
    have hrd : rd (rolesS l) (i : Int) = (rolesS l).getD i 0 := by unfold rd; rw [Int.toNat_natCast]
    have hdr : (List.range l.length).drop i = i :: (List.range l.length).drop (i + 1) := by
      rw [List.drop_eq_getElem_cons (by simpa using hil), List.getElem_range]
    rw [trim_Blank.l0, if_pos (by omega), if_pos (by omega), if_pos (by omega), hrd, fe_wr1 i (by omega), blank_l0 l hl d k (i + 1) (by omega) (by omega) (by omega), hdr, List.all_cons]
    by_cases h1 : (rolesS l).getD i 0 = 1
    · rw [if_pos h1, beq_iff_eq.2 h1]; rfl
    · rw [if_neg h1, beq_eq_false_iff_ne.2 h1, if_pos (by omega), fe_rd25, edge_f, Option.bind_some]
      cases edgeB (l.getD i z25) with
      | true => rfl
      | false => rfl
theorem blank_S (l : List S25) (hl : l.length < 4398046511104) : trim_Blank.f (l.length + 1) l = some (blkS l) := by
  unfold trim_Blank.f trim_Roles.f
  rw [if_pos hl, Option.bind_some, fe_rolesS_len]
  exact blank_l0 l hl l.length (l.length + 1) 0 (by omega) (by omega) (by omega)
def badCell (c : S25) : Bool := c.f0 == 4 && decide (c.f3 < 0)
/-- May cells, and a place, be? -/
def mayS (l : List S25) (a : Int) : Bool := (l.all fun c => !badCell c) && decide (0 ≤ a ∧ a ≤ (l.length : Int))
theorem may_l0 (l : List S25) (a : Int) (hl : l.length < 4398046511104) : ∀ (d k i : Nat), i ≤ l.length → l.length - i = d → d < k →
    fill_may.l0 k l a l (l.length : Int) (i : Int) = some (((l.drop i).all fun c => !badCell c) && decide (0 ≤ a ∧ a ≤ (l.length : Int)))
  | 0, k, i, hi, hd, hk => by
    obtain ⟨k, rfl⟩ : ∃ m, k = m + 1 := ⟨k - 1, by omega⟩
    rw [fill_may.l0, if_neg (by omega), List.drop_eq_nil_of_le (by omega)]
    by_cases h : a ≥ 0
    · rw [if_pos h]; simp [h]
    · rw [if_neg h]; simp; omega
  | d + 1, k, i, hi, hd, hk => by
    obtain ⟨k, rfl⟩ : ∃ m, k = m + 1 := ⟨k - 1, by omega⟩
    have hil : i < l.length := by omega
    rw [fill_may.l0, if_pos (by omega), if_pos (by omega), if_pos (by omega), fe_wr1 i (by omega), may_l0 l a hl d k (i + 1) (by omega) (by omega) (by omega), List.drop_eq_getElem_cons hil, List.all_cons, fe_rd25, fe_get l i hil]
    unfold badCell
    by_cases h1 : l[i].f0 = 4
    · rw [if_pos h1, beq_iff_eq.2 h1]
      by_cases h2 : l[i].f3 < 0
      · rw [if_pos h2, decide_eq_true h2]; rfl
      · rw [if_neg h2, decide_eq_false h2]; simp
    · rw [if_neg h1, beq_eq_false_iff_ne.2 h1]; simp
theorem may_S (l : List S25) (a : Int) (hl : l.length < 4398046511104) : fill_may.f (l.length + 1) l a = some (mayS l a) :=
  may_l0 l a hl l.length (l.length + 1) 0 (by omega) (by omega) (by omega)
def closeN (l : List S25) : Nat := (l.takeWhile fun c => c.f0 == 8).length
def lastGo : Nat → List S25 → Nat × Bool
  | i, [] => (i, false)
  | i, c :: l => if c.f0 = 5 then (i + 1 + closeN l, true) else lastGo (i + 1) l
/-- The last end from a place on; is it forced? -/
def lastS (l : List S25) (n : Nat) : Nat × Bool := lastGo n (l.drop n)
theorem last_l1 (l : List S25) (hl : l.length < 4398046511104) : ∀ (d k i : Nat), i ≤ l.length → l.length - i = d → d < k → fill_last.l1 k l (i : Int) = some (((i + closeN (l.drop i) : Nat) : Int), true)
  | 0, k, i, hi, hd, hk => by
    obtain ⟨k, rfl⟩ : ∃ m, k = m + 1 := ⟨k - 1, by omega⟩
    rw [fill_last.l1, if_neg (by omega), List.drop_eq_nil_of_le (by omega)]; rfl
  | d + 1, k, i, hi, hd, hk => by
    obtain ⟨k, rfl⟩ : ∃ m, k = m + 1 := ⟨k - 1, by omega⟩
    have hil : i < l.length := by omega
    rw [fill_last.l1, if_pos (by omega), if_pos (by omega), fe_rd25, fe_get l i hil, fe_wr1 i (by omega), List.drop_eq_getElem_cons hil]
    unfold closeN
    rw [List.takeWhile_cons]
    by_cases h8 : l[i].f0 = 8
    · rw [if_pos h8, if_pos (by simpa using h8), last_l1 l hl d k (i + 1) (by omega) (by omega) (by omega), List.length_cons]
      unfold closeN
      congr 2
      omega
    · rw [if_neg h8, if_neg (by simpa using h8)]; rfl
theorem last_l0 (l : List S25) (hl : l.length < 4398046511104) : ∀ (d k i : Nat), i ≤ l.length → l.length - i = d → d + 1 < k → fill_last.l0 k l (i : Int) = some (((lastGo i (l.drop i)).1 : Int), (lastGo i (l.drop i)).2)
  | 0, k, i, hi, hd, hk => by
    obtain ⟨k, rfl⟩ : ∃ m, k = m + 1 := ⟨k - 1, by omega⟩
    rw [fill_last.l0, if_neg (by omega), List.drop_eq_nil_of_le (by omega), lastGo]
    congr 2
    omega
  | d + 1, k, i, hi, hd, hk => by
    obtain ⟨k, rfl⟩ : ∃ m, k = m + 1 := ⟨k - 1, by omega⟩
    have hil : i < l.length := by omega
    rw [fill_last.l0, if_pos (by omega), if_pos (by omega), fe_rd25, fe_get l i hil, fe_wr1 i (by omega), List.drop_eq_getElem_cons hil, lastGo]
    by_cases h5 : l[i].f0 = 5
    · rw [if_pos h5, if_pos h5, last_l1 l hl d k (i + 1) (by omega) (by omega) (by omega)]
    · rw [if_neg h5, if_neg h5]
      exact last_l0 l hl d k (i + 1) (by omega) (by omega) (by omega)
theorem last_S (l : List S25) (n : Nat) (hn : n ≤ l.length) (hl : l.length < 4398046511104) : fill_last.f (l.length + 2) l (n : Int) = some (((lastS l n).1 : Int), (lastS l n).2) :=
  last_l0 l hl (l.length - n) (l.length + 2) n hn rfl (by omega)
theorem closeN_le (l : List S25) : closeN l ≤ l.length := (List.takeWhile_sublist _).length_le
theorem lastGo_le : ∀ (l : List S25) (i : Nat), i ≤ (lastGo i l).1 ∧ (lastGo i l).1 ≤ i + l.length
  | [], i => by simp [lastGo]
  | c :: l, i => by
    rw [lastGo]
    split
    · have := closeN_le l; simp; omega
    · have := lastGo_le l (i + 1); simp; omega
theorem lastS_le (l : List S25) (n : Nat) (h : n ≤ l.length) : n ≤ (lastS l n).1 ∧ (lastS l n).1 ≤ l.length := by
  have := lastGo_le (l.drop n) n
  unfold lastS
  simp at this
  omega
/-- From p on: the places that are ends of a kind. -/
def endB (is : S25 → Bool) (l : List S25) (fr p : Nat) : Bool := is (l.getD p z25) && !blkS ((l.take p).drop fr)
def endsFrom (is : S25 → Bool) (l : List S25) (fr u p : Nat) : List Nat := (List.range' p (u - p)).filter (endB is l fr)
def endsS (is : S25 → Bool) (l : List S25) (fr u : Nat) : List Nat := endsFrom is l fr u (fr + 1)
theorem endsFrom_step (is : S25 → Bool) (l : List S25) (fr u p : Nat) (h : p < u) : endsFrom is l fr u p = if endB is l fr p = true then p :: endsFrom is l fr u (p + 1) else endsFrom is l fr u (p + 1) := by
  unfold endsFrom
  obtain ⟨d, hd⟩ : ∃ d, u - p = d + 1 := ⟨u - p - 1, by omega⟩
  rw [hd, List.range'_succ, List.filter_cons, show u - (p + 1) = d by omega]
theorem endsFrom_end (is : S25 → Bool) (l : List S25) (fr u p : Nat) (h : u ≤ p) : endsFrom is l fr u p = [] := by
  unfold endsFrom
  rw [show u - p = 0 by omega]; rfl
theorem cell25' {w0 W : World} {A : Option Addr} {l0 : List S25} (h : Kd.C k25 w0 A l0.length l0) (hB : Below w0.heap.size w0 W) (j : Nat) (hj : j < l0.length) :
    ∃ ad, A = some ad ∧ W.cell? (ad.add (j * 6)) = some (.int .u8 (l0.getD j z25).f0) ∧ W.cell? ⟨(ad.add (j * 6)).block, (ad.add (j * 6)).off + 1, none⟩ = some (.int .i64 (l0.getD j z25).f1) ∧ W.cell? ⟨(ad.add (j * 6)).block, (ad.add (j * 6)).off + 2, none⟩ = some (.int .i64 (l0.getD j z25).f2) ∧
      W.cell? ⟨(ad.add (j * 6)).block, (ad.add (j * 6)).off + 3, none⟩ = some (.int .i64 (l0.getD j z25).f3) ∧ W.cell? ⟨(ad.add (j * 6)).block, (ad.add (j * 6)).off + 4, none⟩ = some (.bool (l0.getD j z25).f4) ∧ W.cell? ⟨(ad.add (j * 6)).block, (ad.add (j * 6)).off + 5, none⟩ = some (.bool (l0.getD j z25).f5) := by
  obtain ⟨ad, e, d0, d1, d2, d3, d4, d5⟩ := at_T25 h (j : Int) (by omega) (by omega)
  have ec : rd_T25 l0 (j : Int) = l0.getD j z25 := by unfold rd_T25; rw [Int.toNat_natCast]
  rw [ec, Int.toNat_natCast] at d0 d1 d2 d3 d4 d5
  exact ⟨ad, e, pw_cell_below hB d0, pw_cell_below hB d1, pw_cell_below hB d2, pw_cell_below hB d3, pw_cell_below hB d4, pw_cell_below hB d5⟩
end
section
open Go.Proofs.Ytkcmehijmgjgfaa.It Go.Shelf
attribute [local go_sem] Oper.semAt_some
def encEnd (p : Nat) : Array Value := #[.int .i64 (p : Int)]
set_option maxRecDepth 100000 in
set_option maxHeartbeats 4000000 in
theorem ends_seq (m : Nat) (w0 w : World) (hb : Below w0.heap.size w0 w) (A0 : Option Addr) (c0 : Nat) (l0 : List S25) (fr u : Nat) (fid : Nat) (is : S25 → Bool)
    (hC0 : Kd.C k25 w0 A0 l0.length l0) (hc0 : l0.length ≤ c0) (hu : u ≤ l0.length) (bf bt bs bl : Nat)
    (hf : Boxed w bf 3 (.int .i64 (fr : Int))) (ht : Boxed w bt 3 (.int .i64 (u : Int))) (hs : Boxed w bs 94 (.func (.func fid) #[] #[])) (hl : Boxed w bl 22 (.slice A0 l0.length c0))
    (Oc : Nat → Prop) (hOf : ¬ Oc bf) (hOt : ¬ Oc bt) (hOs : ¬ Oc bs) (hOl : ¬ Oc bl) (hO : ∀ i, i < w0.heap.size → ¬ Oc i)
    (eg : ∀ args w, (callFunc fid args).run Try.prog w = .ok (.enter fid args) w)
    (hp : ∀ c W, Calls Try.prog fid #[encC c] W fun e W' => e = .returned (.bool (is c)) ∧ Below W.heap.size W W')
    (hlen : l0.length < 4398046511104) (hfr : fr ≤ l0.length) :
    Seq (m + 1) Try.prog 95 #[.pointer (some ⟨bf, 0, none⟩), .pointer (some ⟨bt, 0, none⟩), .pointer (some ⟨bs, 0, none⟩), .pointer (some ⟨bl, 0, none⟩)] ((endsS is l0 fr u).map encEnd) (fun _ => False) Oc w := by
  intro l J Jx W hW hJ hJx hY h0
  have HC0 := Aside0.mk hC0
  have HP := Aside0.mk hp
  have HB := Aside0.mk (And.intro hb hW)
  clear hC0 hp
  refine callsIn_of_wp Try.func95 rfl trivial ?_ rfl
  simp only [Try.ntmps95, List.size_toArray, List.length_cons, List.length_nil, Nat.reduceAdd, Nat.reduceSub, Array.replicate_succ, Array.replicate_zero, List.push_toArray, List.append_toArray, List.nil_append, List.cons_append]
  have hfW := (boxed_lv hW hf hOf).cell
  gi_wp2
  gi_loopw [6] (fun f wr => ∃ (p k : Nat), fr + 1 ≤ p ∧ p ≤ l0.length + 1 ∧ k ≤ (endsS is l0 fr u).length ∧ f = .int .i64 (p : Int) ∧ J k wr ∧ Aside0 ((endsS is l0 fr u).drop k = endsFrom is l0 fr u p) ∧ Aside0 (Lv Oc w wr))
    (fun f _ => l0.length + 1 - (intOf f).toNat)
  case atStart => exact ⟨fr + 1, 0, by omega, by omega, by omega, by go_num, h0, ⟨rfl⟩, ⟨hW⟩⟩
  case round =>
    obtain ⟨p, k, hp1, hp2, hk, rfl, hJs, HD, HL⟩ := hrel
    clear hfW
    have hfW := (boxed_lv HL.out hf hOf).cell
    have htW := (boxed_lv HL.out ht hOt).cell
    have hsW := (boxed_lv HL.out hs hOs).cell
    have hlW := (boxed_lv HL.out hl hOl).cell
    by_cases hlt : p < u
    · have y0 : decide ((p : Int) < (u : Int)) = true := by simp; omega
      have hBw : Below w0.heap.size w0 wr := hb.trans (HL.out.below hb.size hO)
      obtain ⟨ad, ea, d0, d1, d2, d3, d4, d5⟩ := cell25' HC0.out hBw p (by omega)
      cases ea
      obtain ⟨c, hc⟩ : ∃ c, c = l0.getD p z25 := ⟨_, rfl⟩
      rw [← hc] at d0 d1 d2 d3 d4 d5
      have HCk := Aside0.mk hc
      clear hc
      have hstep := endsFrom_step is l0 fr u p hlt
      unfold endB at hstep
      rw [← HCk.out] at hstep
      have HST := Aside0.mk hstep
      clear hstep
      have q1 : p < l0.length := by omega
      have HBW := Aside0.mk hBw
      clear hBw
      have hfo : Try.prog.follows .mixedOrders = true := by kernel_rfl
      by_cases his : is c = true
      · have HIS := Aside0.mk his
        obtain ⟨i0, hi0, _, hsz, _⟩ := info_parts info25
        have hcut := cut_mid (P := Try.prog) 22 25 .i64 .i64 Try.underlying22 hi0 6 hsz (some ad) l0.length c0 (fr : Int) (p : Int) (by omega) (by omega) (by omega) hc0
        rw [Int.toNat_natCast, Int.toNat_natCast] at hcut
        obtain ⟨A1, hA1⟩ : ∃ A1, A1 = (if c0 = fr then some ad else (some ad : Option Addr).map (·.add (fr * 6))) := ⟨_, rfl⟩
        obtain ⟨ys, hys⟩ : ∃ ys, ys = (l0.take p).drop fr := ⟨_, rfl⟩
        have hyl : ys.length = p - fr := by rw [hys, List.length_drop, List.length_take]; omega
        rw [← hA1, ← hyl] at hcut
        have hblk : ∀ W', Below w0.heap.size w0 W' → Calls Try.prog 20 #[.slice A1 ys.length (c0 - fr)] W' fun e w' => e = .returned (.bool (blkS ys)) ∧ Below W'.heap.size W' w' := fun W' hW' => by
          have hr := Kd.C_mid (lo := fr) (hi := p) (c := c0) (Kd.C_below HC0.out hW') (by omega) (by omega) hc0
          rw [show k25.sz = 6 from rfl, ← hA1, ← hys] at hr
          exact trim_Blank.calls (ys.length + 1) A1 (c0 - fr) ys (blkS ys) W' hr (by omega) (blank_S ys (by omega))
        rw [← hys] at HST
        clear hi0 hsz hA1 hyl
        by_cases hbl : blkS ys = true
        · rw [hbl] at hblk
          have HBL := Aside0.mk hblk
          have HF := Aside0.mk (show (is c && !blkS ys) = false by rw [hbl, his]; rfl)
          have HYS := Aside0.mk hys
          clear hblk hbl his hys
          gi_wp2_with fail
          refine wpIn_region_any hfo ?_
          change wpAnyIn _ _ _ _ _ _ _ _ _ (World.drew _)
          refine wpAnyIn_take (i := 2) (v := (.int .i64 (p : Int))) rfl rfl (by kernel_rfl) (by kernel_rfl) (by kernel_rfl) (fun _ _ _ h => h) ⟨Or.inl ⟨rfl, fun w => by go_simp⟩, fun _ => rfl⟩ ?_
          refine wpAnyIn_ready (rs := [0, 1]) (by kernel_rfl) (by simp) ?_
          refine AllReadyIn.cons rfl (fun K hK => ?_) (AllReadyIn.cons rfl (fun K hK => ?_) AllReadyIn.nil)
          · go_simp
            refine hK _ _ ?_
            clear hK K
            refine wpAnyIn_ready (rs := [1]) (by kernel_rfl) (by simp) ?_
            refine AllReadyIn.cons rfl (fun K hK => ?_) AllReadyIn.nil
            go_simp
            refine hK _ _ ?_
            clear hK K
            refine wpAnyIn_take (i := 3) (v := (.pointer (some (ad.add (p * 6))))) rfl rfl (by kernel_rfl) (by kernel_rfl) (by kernel_rfl) (fun _ _ _ h => h) ⟨Or.inl ⟨rfl, fun w => by go_simp⟩, fun _ => rfl⟩ ?_
            refine wpAnyIn_ready (rs := [4]) (by kernel_rfl) (by simp) ?_
            refine AllReadyIn.cons rfl (fun K hK => ?_) AllReadyIn.nil
            go_simp
            refine hK _ _ ?_
            clear hK K
            refine wpAnyIn_ready (rs := [5]) (by kernel_rfl) (by simp) ?_
            refine AllReadyIn.cons rfl (fun K hK => ?_) AllReadyIn.nil
            go_simp
            refine ⟨trivial, (callsIn_wide.2 (HP.out c _)).mono ?_⟩
            rintro e w1 ⟨rfl, hb1⟩
            rw [HIS.out]
            refine hK _ _ ?_
            clear hK K
            have hL1 : ∀ O, Lv O wr w1 := fun O => (Lv.drew O wr).trans (Lv.of_below hb1)
            have HJ1 := Aside0.mk (hJ _ _ _ hJs (hL1 _))
            have HL1 := Aside0.mk (HL.out.trans (hL1 _))
            have HB1 := Aside0.mk (below_step HBW.out (below_step ((Below.refl _ wr).drew) hb1))
            clear hb1 hL1 hJs
            clear hfW htW hsW hlW
            have hfW := (boxed_lv HL1.out hf hOf).cell
            have hlW := (boxed_lv HL1.out hl hOl).cell
            refine wpAnyIn_take (i := 6) (v := (.bool true)) rfl rfl (by kernel_rfl) (by kernel_rfl) (by kernel_rfl) (fun _ _ _ h => h) ⟨Or.inl ⟨rfl, fun w => by go_simp⟩, fun _ => rfl⟩ ?_
            refine wpAnyIn_take (i := 9) (v := (.int .i64 (p : Int))) rfl rfl (by kernel_rfl) (by kernel_rfl) (by kernel_rfl) (fun _ _ _ h => h) ⟨Or.inl ⟨rfl, fun w => by go_simp⟩, fun _ => rfl⟩ ?_
            refine wpAnyIn_ready (rs := [7, 8]) (by kernel_rfl) (by simp) ?_
            refine AllReadyIn.cons rfl (fun K hK => ?_) (AllReadyIn.cons rfl (fun K hK => ?_) AllReadyIn.nil)
            · go_simp
              refine hK _ _ ?_
              clear hK K
              refine wpAnyIn_ready (rs := [8]) (by kernel_rfl) (by simp) ?_
              refine AllReadyIn.cons rfl (fun K hK => ?_) AllReadyIn.nil
              go_simp
              refine hK _ _ ?_
              clear hK K
              refine wpAnyIn_ready (rs := [10]) (by kernel_rfl) (by simp) ?_
              refine AllReadyIn.cons rfl (fun K hK => ?_) AllReadyIn.nil
              go_simp
              refine hK _ _ ?_
              clear hK K
              refine wpAnyIn_ready (rs := [11]) (by kernel_rfl) (by simp) ?_
              refine AllReadyIn.cons rfl (fun K hK => ?_) AllReadyIn.nil
              go_simp
              refine ⟨trivial, (callsIn_wide.2 (HBL.out w1 HB1.out)).mono ?_⟩
              rintro e w2 ⟨rfl, hb2⟩
              refine hK _ _ ?_
              clear hK K
              have hL2 : ∀ O, Lv O w1 w2 := fun O => Lv.of_below hb2
              have HJ2 := Aside0.mk (hJ _ _ _ HJ1.out (hL2 _))
              have HL2 := Aside0.mk (HL1.out.trans (hL2 _))
              clear hb2 hL2
              refine wpAnyIn_take (i := 12) (v := (.bool false)) rfl rfl (by kernel_rfl) (by kernel_rfl) (by kernel_rfl) (fun _ _ _ h => h) ⟨Or.inl ⟨rfl, fun w => by go_simp⟩, fun _ => rfl⟩ ?_
              refine wpAnyIn_take (i := 13) (v := (.bool false)) rfl rfl (by kernel_rfl) (by kernel_rfl) (by kernel_rfl) (fun _ _ _ h => h) ⟨Or.inl ⟨rfl, fun w => by go_simp⟩, fun _ => rfl⟩ ?_
              refine wpAnyIn_take (i := 14) (v := (.bool false)) rfl rfl (by kernel_rfl) (by kernel_rfl) (by kernel_rfl) (fun _ _ _ h => h) ⟨Or.inl ⟨rfl, fun w => by go_simp⟩, fun _ => rfl⟩ ?_
              refine wpAnyIn_take (i := 15) (v := undef) rfl rfl (by kernel_rfl) (by kernel_rfl) (by kernel_rfl) (fun _ _ _ h => h) ⟨Or.inr ⟨rfl, rfl⟩, fun _ => rfl⟩ ?_
              refine wpAnyIn_take (i := 16) (v := undef) rfl rfl (by kernel_rfl) (by kernel_rfl) (by kernel_rfl) (fun _ _ _ h => h) ⟨Or.inr ⟨rfl, rfl⟩, fun _ => rfl⟩ ?_
              refine wpAnyIn_ready (rs := [17]) (by kernel_rfl) (by simp) ?_
              refine AllReadyIn.cons rfl (fun K hK => ?_) AllReadyIn.nil
              go_simp
              refine ⟨by first | exact trivial | exact fun _ _ => trivial, hK _ _ ?_⟩
              clear hK K
              refine wpAnyIn_take (i := 18) (v := undef) rfl rfl (by kernel_rfl) (by kernel_rfl) (by kernel_rfl) (fun _ _ _ h => h) ⟨Or.inr ⟨rfl, rfl⟩, fun _ => rfl⟩ ?_
              refine wpAnyIn_take (i := 19) (v := (.bool false)) rfl rfl (by kernel_rfl) (by kernel_rfl) (by kernel_rfl) (fun _ _ _ h => h) ⟨Or.inl ⟨rfl, fun w => by go_simp⟩, fun _ => rfl⟩ ?_
              refine wpAnyIn_done (by kernel_rfl) ?_ _
              gi_wp2
              go_roundw
              case rel => exact ⟨p + 1, k, by omega, by omega, hk, by go_num, HJ2.out, ⟨by rw [HD.out, HST.out, if_neg (by simp [HF.out])]⟩, HL2⟩
              case measure => simp [intOf]; omega
            · go_simp
              refine hK _ _ ?_
              clear hK K
              refine wpAnyIn_ready (rs := [7]) (by kernel_rfl) (by simp) ?_
              refine AllReadyIn.cons rfl (fun K hK => ?_) AllReadyIn.nil
              go_simp
              refine hK _ _ ?_
              clear hK K
              refine wpAnyIn_ready (rs := [10]) (by kernel_rfl) (by simp) ?_
              refine AllReadyIn.cons rfl (fun K hK => ?_) AllReadyIn.nil
              go_simp
              refine hK _ _ ?_
              clear hK K
              refine wpAnyIn_ready (rs := [11]) (by kernel_rfl) (by simp) ?_
              refine AllReadyIn.cons rfl (fun K hK => ?_) AllReadyIn.nil
              go_simp
              refine ⟨trivial, (callsIn_wide.2 (HBL.out w1 HB1.out)).mono ?_⟩
              rintro e w2 ⟨rfl, hb2⟩
              refine hK _ _ ?_
              clear hK K
              have hL2 : ∀ O, Lv O w1 w2 := fun O => Lv.of_below hb2
              have HJ2 := Aside0.mk (hJ _ _ _ HJ1.out (hL2 _))
              have HL2 := Aside0.mk (HL1.out.trans (hL2 _))
              clear hb2 hL2
              refine wpAnyIn_take (i := 12) (v := (.bool false)) rfl rfl (by kernel_rfl) (by kernel_rfl) (by kernel_rfl) (fun _ _ _ h => h) ⟨Or.inl ⟨rfl, fun w => by go_simp⟩, fun _ => rfl⟩ ?_
              refine wpAnyIn_take (i := 13) (v := (.bool false)) rfl rfl (by kernel_rfl) (by kernel_rfl) (by kernel_rfl) (fun _ _ _ h => h) ⟨Or.inl ⟨rfl, fun w => by go_simp⟩, fun _ => rfl⟩ ?_
              refine wpAnyIn_take (i := 14) (v := (.bool false)) rfl rfl (by kernel_rfl) (by kernel_rfl) (by kernel_rfl) (fun _ _ _ h => h) ⟨Or.inl ⟨rfl, fun w => by go_simp⟩, fun _ => rfl⟩ ?_
              refine wpAnyIn_take (i := 15) (v := undef) rfl rfl (by kernel_rfl) (by kernel_rfl) (by kernel_rfl) (fun _ _ _ h => h) ⟨Or.inr ⟨rfl, rfl⟩, fun _ => rfl⟩ ?_
              refine wpAnyIn_take (i := 16) (v := undef) rfl rfl (by kernel_rfl) (by kernel_rfl) (by kernel_rfl) (fun _ _ _ h => h) ⟨Or.inr ⟨rfl, rfl⟩, fun _ => rfl⟩ ?_
              refine wpAnyIn_ready (rs := [17]) (by kernel_rfl) (by simp) ?_
              refine AllReadyIn.cons rfl (fun K hK => ?_) AllReadyIn.nil
              go_simp
              refine ⟨by first | exact trivial | exact fun _ _ => trivial, hK _ _ ?_⟩
              clear hK K
              refine wpAnyIn_take (i := 18) (v := undef) rfl rfl (by kernel_rfl) (by kernel_rfl) (by kernel_rfl) (fun _ _ _ h => h) ⟨Or.inr ⟨rfl, rfl⟩, fun _ => rfl⟩ ?_
              refine wpAnyIn_take (i := 19) (v := (.bool false)) rfl rfl (by kernel_rfl) (by kernel_rfl) (by kernel_rfl) (fun _ _ _ h => h) ⟨Or.inl ⟨rfl, fun w => by go_simp⟩, fun _ => rfl⟩ ?_
              refine wpAnyIn_done (by kernel_rfl) ?_ _
              gi_wp2
              go_roundw
              case rel => exact ⟨p + 1, k, by omega, by omega, hk, by go_num, HJ2.out, ⟨by rw [HD.out, HST.out, if_neg (by simp [HF.out])]⟩, HL2⟩
              case measure => simp [intOf]; omega
          · go_simp
            refine hK _ _ ?_
            clear hK K
            refine wpAnyIn_take (i := 3) (v := (.pointer (some (ad.add (p * 6))))) rfl rfl (by kernel_rfl) (by kernel_rfl) (by kernel_rfl) (fun _ _ _ h => h) ⟨Or.inl ⟨rfl, fun w => by go_simp⟩, fun _ => rfl⟩ ?_
            refine wpAnyIn_ready (rs := [0, 4]) (by kernel_rfl) (by simp) ?_
            refine AllReadyIn.cons rfl (fun K hK => ?_) (AllReadyIn.cons rfl (fun K hK => ?_) AllReadyIn.nil)
            · go_simp
              refine hK _ _ ?_
              clear hK K
              refine wpAnyIn_ready (rs := [4]) (by kernel_rfl) (by simp) ?_
              refine AllReadyIn.cons rfl (fun K hK => ?_) AllReadyIn.nil
              go_simp
              refine hK _ _ ?_
              clear hK K
              refine wpAnyIn_ready (rs := [5]) (by kernel_rfl) (by simp) ?_
              refine AllReadyIn.cons rfl (fun K hK => ?_) AllReadyIn.nil
              go_simp
              refine ⟨trivial, (callsIn_wide.2 (HP.out c _)).mono ?_⟩
              rintro e w1 ⟨rfl, hb1⟩
              rw [HIS.out]
              refine hK _ _ ?_
              clear hK K
              have hL1 : ∀ O, Lv O wr w1 := fun O => (Lv.drew O wr).trans (Lv.of_below hb1)
              have HJ1 := Aside0.mk (hJ _ _ _ hJs (hL1 _))
              have HL1 := Aside0.mk (HL.out.trans (hL1 _))
              have HB1 := Aside0.mk (below_step HBW.out (below_step ((Below.refl _ wr).drew) hb1))
              clear hb1 hL1 hJs
              clear hfW htW hsW hlW
              have hfW := (boxed_lv HL1.out hf hOf).cell
              have hlW := (boxed_lv HL1.out hl hOl).cell
              refine wpAnyIn_take (i := 6) (v := (.bool true)) rfl rfl (by kernel_rfl) (by kernel_rfl) (by kernel_rfl) (fun _ _ _ h => h) ⟨Or.inl ⟨rfl, fun w => by go_simp⟩, fun _ => rfl⟩ ?_
              refine wpAnyIn_take (i := 9) (v := (.int .i64 (p : Int))) rfl rfl (by kernel_rfl) (by kernel_rfl) (by kernel_rfl) (fun _ _ _ h => h) ⟨Or.inl ⟨rfl, fun w => by go_simp⟩, fun _ => rfl⟩ ?_
              refine wpAnyIn_ready (rs := [7, 8]) (by kernel_rfl) (by simp) ?_
              refine AllReadyIn.cons rfl (fun K hK => ?_) (AllReadyIn.cons rfl (fun K hK => ?_) AllReadyIn.nil)
              · go_simp
                refine hK _ _ ?_
                clear hK K
                refine wpAnyIn_ready (rs := [8]) (by kernel_rfl) (by simp) ?_
                refine AllReadyIn.cons rfl (fun K hK => ?_) AllReadyIn.nil
                go_simp
                refine hK _ _ ?_
                clear hK K
                refine wpAnyIn_ready (rs := [10]) (by kernel_rfl) (by simp) ?_
                refine AllReadyIn.cons rfl (fun K hK => ?_) AllReadyIn.nil
                go_simp
                refine hK _ _ ?_
                clear hK K
                refine wpAnyIn_ready (rs := [11]) (by kernel_rfl) (by simp) ?_
                refine AllReadyIn.cons rfl (fun K hK => ?_) AllReadyIn.nil
                go_simp
                refine ⟨trivial, (callsIn_wide.2 (HBL.out w1 HB1.out)).mono ?_⟩
                rintro e w2 ⟨rfl, hb2⟩
                refine hK _ _ ?_
                clear hK K
                have hL2 : ∀ O, Lv O w1 w2 := fun O => Lv.of_below hb2
                have HJ2 := Aside0.mk (hJ _ _ _ HJ1.out (hL2 _))
                have HL2 := Aside0.mk (HL1.out.trans (hL2 _))
                clear hb2 hL2
                refine wpAnyIn_take (i := 12) (v := (.bool false)) rfl rfl (by kernel_rfl) (by kernel_rfl) (by kernel_rfl) (fun _ _ _ h => h) ⟨Or.inl ⟨rfl, fun w => by go_simp⟩, fun _ => rfl⟩ ?_
                refine wpAnyIn_take (i := 13) (v := (.bool false)) rfl rfl (by kernel_rfl) (by kernel_rfl) (by kernel_rfl) (fun _ _ _ h => h) ⟨Or.inl ⟨rfl, fun w => by go_simp⟩, fun _ => rfl⟩ ?_
                refine wpAnyIn_take (i := 14) (v := (.bool false)) rfl rfl (by kernel_rfl) (by kernel_rfl) (by kernel_rfl) (fun _ _ _ h => h) ⟨Or.inl ⟨rfl, fun w => by go_simp⟩, fun _ => rfl⟩ ?_
                refine wpAnyIn_take (i := 15) (v := undef) rfl rfl (by kernel_rfl) (by kernel_rfl) (by kernel_rfl) (fun _ _ _ h => h) ⟨Or.inr ⟨rfl, rfl⟩, fun _ => rfl⟩ ?_
                refine wpAnyIn_take (i := 16) (v := undef) rfl rfl (by kernel_rfl) (by kernel_rfl) (by kernel_rfl) (fun _ _ _ h => h) ⟨Or.inr ⟨rfl, rfl⟩, fun _ => rfl⟩ ?_
                refine wpAnyIn_ready (rs := [17]) (by kernel_rfl) (by simp) ?_
                refine AllReadyIn.cons rfl (fun K hK => ?_) AllReadyIn.nil
                go_simp
                refine ⟨by first | exact trivial | exact fun _ _ => trivial, hK _ _ ?_⟩
                clear hK K
                refine wpAnyIn_take (i := 18) (v := undef) rfl rfl (by kernel_rfl) (by kernel_rfl) (by kernel_rfl) (fun _ _ _ h => h) ⟨Or.inr ⟨rfl, rfl⟩, fun _ => rfl⟩ ?_
                refine wpAnyIn_take (i := 19) (v := (.bool false)) rfl rfl (by kernel_rfl) (by kernel_rfl) (by kernel_rfl) (fun _ _ _ h => h) ⟨Or.inl ⟨rfl, fun w => by go_simp⟩, fun _ => rfl⟩ ?_
                refine wpAnyIn_done (by kernel_rfl) ?_ _
                gi_wp2
                go_roundw
                case rel => exact ⟨p + 1, k, by omega, by omega, hk, by go_num, HJ2.out, ⟨by rw [HD.out, HST.out, if_neg (by simp [HF.out])]⟩, HL2⟩
                case measure => simp [intOf]; omega
              · go_simp
                refine hK _ _ ?_
                clear hK K
                refine wpAnyIn_ready (rs := [7]) (by kernel_rfl) (by simp) ?_
                refine AllReadyIn.cons rfl (fun K hK => ?_) AllReadyIn.nil
                go_simp
                refine hK _ _ ?_
                clear hK K
                refine wpAnyIn_ready (rs := [10]) (by kernel_rfl) (by simp) ?_
                refine AllReadyIn.cons rfl (fun K hK => ?_) AllReadyIn.nil
                go_simp
                refine hK _ _ ?_
                clear hK K
                refine wpAnyIn_ready (rs := [11]) (by kernel_rfl) (by simp) ?_
                refine AllReadyIn.cons rfl (fun K hK => ?_) AllReadyIn.nil
                go_simp
                refine ⟨trivial, (callsIn_wide.2 (HBL.out w1 HB1.out)).mono ?_⟩
                rintro e w2 ⟨rfl, hb2⟩
                refine hK _ _ ?_
                clear hK K
                have hL2 : ∀ O, Lv O w1 w2 := fun O => Lv.of_below hb2
                have HJ2 := Aside0.mk (hJ _ _ _ HJ1.out (hL2 _))
                have HL2 := Aside0.mk (HL1.out.trans (hL2 _))
                clear hb2 hL2
                refine wpAnyIn_take (i := 12) (v := (.bool false)) rfl rfl (by kernel_rfl) (by kernel_rfl) (by kernel_rfl) (fun _ _ _ h => h) ⟨Or.inl ⟨rfl, fun w => by go_simp⟩, fun _ => rfl⟩ ?_
                refine wpAnyIn_take (i := 13) (v := (.bool false)) rfl rfl (by kernel_rfl) (by kernel_rfl) (by kernel_rfl) (fun _ _ _ h => h) ⟨Or.inl ⟨rfl, fun w => by go_simp⟩, fun _ => rfl⟩ ?_
                refine wpAnyIn_take (i := 14) (v := (.bool false)) rfl rfl (by kernel_rfl) (by kernel_rfl) (by kernel_rfl) (fun _ _ _ h => h) ⟨Or.inl ⟨rfl, fun w => by go_simp⟩, fun _ => rfl⟩ ?_
                refine wpAnyIn_take (i := 15) (v := undef) rfl rfl (by kernel_rfl) (by kernel_rfl) (by kernel_rfl) (fun _ _ _ h => h) ⟨Or.inr ⟨rfl, rfl⟩, fun _ => rfl⟩ ?_
                refine wpAnyIn_take (i := 16) (v := undef) rfl rfl (by kernel_rfl) (by kernel_rfl) (by kernel_rfl) (fun _ _ _ h => h) ⟨Or.inr ⟨rfl, rfl⟩, fun _ => rfl⟩ ?_
                refine wpAnyIn_ready (rs := [17]) (by kernel_rfl) (by simp) ?_
                refine AllReadyIn.cons rfl (fun K hK => ?_) AllReadyIn.nil
                go_simp
                refine ⟨by first | exact trivial | exact fun _ _ => trivial, hK _ _ ?_⟩
                clear hK K
                refine wpAnyIn_take (i := 18) (v := undef) rfl rfl (by kernel_rfl) (by kernel_rfl) (by kernel_rfl) (fun _ _ _ h => h) ⟨Or.inr ⟨rfl, rfl⟩, fun _ => rfl⟩ ?_
                refine wpAnyIn_take (i := 19) (v := (.bool false)) rfl rfl (by kernel_rfl) (by kernel_rfl) (by kernel_rfl) (fun _ _ _ h => h) ⟨Or.inl ⟨rfl, fun w => by go_simp⟩, fun _ => rfl⟩ ?_
                refine wpAnyIn_done (by kernel_rfl) ?_ _
                gi_wp2
                go_roundw
                case rel => exact ⟨p + 1, k, by omega, by omega, hk, by go_num, HJ2.out, ⟨by rw [HD.out, HST.out, if_neg (by simp [HF.out])]⟩, HL2⟩
                case measure => simp [intOf]; omega
            · go_simp
              refine hK _ _ ?_
              clear hK K
              refine wpAnyIn_ready (rs := [0]) (by kernel_rfl) (by simp) ?_
              refine AllReadyIn.cons rfl (fun K hK => ?_) AllReadyIn.nil
              go_simp
              refine hK _ _ ?_
              clear hK K
              refine wpAnyIn_ready (rs := [5]) (by kernel_rfl) (by simp) ?_
              refine AllReadyIn.cons rfl (fun K hK => ?_) AllReadyIn.nil
              go_simp
              refine ⟨trivial, (callsIn_wide.2 (HP.out c _)).mono ?_⟩
              rintro e w1 ⟨rfl, hb1⟩
              rw [HIS.out]
              refine hK _ _ ?_
              clear hK K
              have hL1 : ∀ O, Lv O wr w1 := fun O => (Lv.drew O wr).trans (Lv.of_below hb1)
              have HJ1 := Aside0.mk (hJ _ _ _ hJs (hL1 _))
              have HL1 := Aside0.mk (HL.out.trans (hL1 _))
              have HB1 := Aside0.mk (below_step HBW.out (below_step ((Below.refl _ wr).drew) hb1))
              clear hb1 hL1 hJs
              clear hfW htW hsW hlW
              have hfW := (boxed_lv HL1.out hf hOf).cell
              have hlW := (boxed_lv HL1.out hl hOl).cell
              refine wpAnyIn_take (i := 6) (v := (.bool true)) rfl rfl (by kernel_rfl) (by kernel_rfl) (by kernel_rfl) (fun _ _ _ h => h) ⟨Or.inl ⟨rfl, fun w => by go_simp⟩, fun _ => rfl⟩ ?_
              refine wpAnyIn_take (i := 9) (v := (.int .i64 (p : Int))) rfl rfl (by kernel_rfl) (by kernel_rfl) (by kernel_rfl) (fun _ _ _ h => h) ⟨Or.inl ⟨rfl, fun w => by go_simp⟩, fun _ => rfl⟩ ?_
              refine wpAnyIn_ready (rs := [7, 8]) (by kernel_rfl) (by simp) ?_
              refine AllReadyIn.cons rfl (fun K hK => ?_) (AllReadyIn.cons rfl (fun K hK => ?_) AllReadyIn.nil)
              · go_simp
                refine hK _ _ ?_
                clear hK K
                refine wpAnyIn_ready (rs := [8]) (by kernel_rfl) (by simp) ?_
                refine AllReadyIn.cons rfl (fun K hK => ?_) AllReadyIn.nil
                go_simp
                refine hK _ _ ?_
                clear hK K
                refine wpAnyIn_ready (rs := [10]) (by kernel_rfl) (by simp) ?_
                refine AllReadyIn.cons rfl (fun K hK => ?_) AllReadyIn.nil
                go_simp
                refine hK _ _ ?_
                clear hK K
                refine wpAnyIn_ready (rs := [11]) (by kernel_rfl) (by simp) ?_
                refine AllReadyIn.cons rfl (fun K hK => ?_) AllReadyIn.nil
                go_simp
                refine ⟨trivial, (callsIn_wide.2 (HBL.out w1 HB1.out)).mono ?_⟩
                rintro e w2 ⟨rfl, hb2⟩
                refine hK _ _ ?_
                clear hK K
                have hL2 : ∀ O, Lv O w1 w2 := fun O => Lv.of_below hb2
                have HJ2 := Aside0.mk (hJ _ _ _ HJ1.out (hL2 _))
                have HL2 := Aside0.mk (HL1.out.trans (hL2 _))
                clear hb2 hL2
                refine wpAnyIn_take (i := 12) (v := (.bool false)) rfl rfl (by kernel_rfl) (by kernel_rfl) (by kernel_rfl) (fun _ _ _ h => h) ⟨Or.inl ⟨rfl, fun w => by go_simp⟩, fun _ => rfl⟩ ?_
                refine wpAnyIn_take (i := 13) (v := (.bool false)) rfl rfl (by kernel_rfl) (by kernel_rfl) (by kernel_rfl) (fun _ _ _ h => h) ⟨Or.inl ⟨rfl, fun w => by go_simp⟩, fun _ => rfl⟩ ?_
                refine wpAnyIn_take (i := 14) (v := (.bool false)) rfl rfl (by kernel_rfl) (by kernel_rfl) (by kernel_rfl) (fun _ _ _ h => h) ⟨Or.inl ⟨rfl, fun w => by go_simp⟩, fun _ => rfl⟩ ?_
                refine wpAnyIn_take (i := 15) (v := undef) rfl rfl (by kernel_rfl) (by kernel_rfl) (by kernel_rfl) (fun _ _ _ h => h) ⟨Or.inr ⟨rfl, rfl⟩, fun _ => rfl⟩ ?_
                refine wpAnyIn_take (i := 16) (v := undef) rfl rfl (by kernel_rfl) (by kernel_rfl) (by kernel_rfl) (fun _ _ _ h => h) ⟨Or.inr ⟨rfl, rfl⟩, fun _ => rfl⟩ ?_
                refine wpAnyIn_ready (rs := [17]) (by kernel_rfl) (by simp) ?_
                refine AllReadyIn.cons rfl (fun K hK => ?_) AllReadyIn.nil
                go_simp
                refine ⟨by first | exact trivial | exact fun _ _ => trivial, hK _ _ ?_⟩
                clear hK K
                refine wpAnyIn_take (i := 18) (v := undef) rfl rfl (by kernel_rfl) (by kernel_rfl) (by kernel_rfl) (fun _ _ _ h => h) ⟨Or.inr ⟨rfl, rfl⟩, fun _ => rfl⟩ ?_
                refine wpAnyIn_take (i := 19) (v := (.bool false)) rfl rfl (by kernel_rfl) (by kernel_rfl) (by kernel_rfl) (fun _ _ _ h => h) ⟨Or.inl ⟨rfl, fun w => by go_simp⟩, fun _ => rfl⟩ ?_
                refine wpAnyIn_done (by kernel_rfl) ?_ _
                gi_wp2
                go_roundw
                case rel => exact ⟨p + 1, k, by omega, by omega, hk, by go_num, HJ2.out, ⟨by rw [HD.out, HST.out, if_neg (by simp [HF.out])]⟩, HL2⟩
                case measure => simp [intOf]; omega
              · go_simp
                refine hK _ _ ?_
                clear hK K
                refine wpAnyIn_ready (rs := [7]) (by kernel_rfl) (by simp) ?_
                refine AllReadyIn.cons rfl (fun K hK => ?_) AllReadyIn.nil
                go_simp
                refine hK _ _ ?_
                clear hK K
                refine wpAnyIn_ready (rs := [10]) (by kernel_rfl) (by simp) ?_
                refine AllReadyIn.cons rfl (fun K hK => ?_) AllReadyIn.nil
                go_simp
                refine hK _ _ ?_
                clear hK K
                refine wpAnyIn_ready (rs := [11]) (by kernel_rfl) (by simp) ?_
                refine AllReadyIn.cons rfl (fun K hK => ?_) AllReadyIn.nil
                go_simp
                refine ⟨trivial, (callsIn_wide.2 (HBL.out w1 HB1.out)).mono ?_⟩
                rintro e w2 ⟨rfl, hb2⟩
                refine hK _ _ ?_
                clear hK K
                have hL2 : ∀ O, Lv O w1 w2 := fun O => Lv.of_below hb2
                have HJ2 := Aside0.mk (hJ _ _ _ HJ1.out (hL2 _))
                have HL2 := Aside0.mk (HL1.out.trans (hL2 _))
                clear hb2 hL2
                refine wpAnyIn_take (i := 12) (v := (.bool false)) rfl rfl (by kernel_rfl) (by kernel_rfl) (by kernel_rfl) (fun _ _ _ h => h) ⟨Or.inl ⟨rfl, fun w => by go_simp⟩, fun _ => rfl⟩ ?_
                refine wpAnyIn_take (i := 13) (v := (.bool false)) rfl rfl (by kernel_rfl) (by kernel_rfl) (by kernel_rfl) (fun _ _ _ h => h) ⟨Or.inl ⟨rfl, fun w => by go_simp⟩, fun _ => rfl⟩ ?_
                refine wpAnyIn_take (i := 14) (v := (.bool false)) rfl rfl (by kernel_rfl) (by kernel_rfl) (by kernel_rfl) (fun _ _ _ h => h) ⟨Or.inl ⟨rfl, fun w => by go_simp⟩, fun _ => rfl⟩ ?_
                refine wpAnyIn_take (i := 15) (v := undef) rfl rfl (by kernel_rfl) (by kernel_rfl) (by kernel_rfl) (fun _ _ _ h => h) ⟨Or.inr ⟨rfl, rfl⟩, fun _ => rfl⟩ ?_
                refine wpAnyIn_take (i := 16) (v := undef) rfl rfl (by kernel_rfl) (by kernel_rfl) (by kernel_rfl) (fun _ _ _ h => h) ⟨Or.inr ⟨rfl, rfl⟩, fun _ => rfl⟩ ?_
                refine wpAnyIn_ready (rs := [17]) (by kernel_rfl) (by simp) ?_
                refine AllReadyIn.cons rfl (fun K hK => ?_) AllReadyIn.nil
                go_simp
                refine ⟨by first | exact trivial | exact fun _ _ => trivial, hK _ _ ?_⟩
                clear hK K
                refine wpAnyIn_take (i := 18) (v := undef) rfl rfl (by kernel_rfl) (by kernel_rfl) (by kernel_rfl) (fun _ _ _ h => h) ⟨Or.inr ⟨rfl, rfl⟩, fun _ => rfl⟩ ?_
                refine wpAnyIn_take (i := 19) (v := (.bool false)) rfl rfl (by kernel_rfl) (by kernel_rfl) (by kernel_rfl) (fun _ _ _ h => h) ⟨Or.inl ⟨rfl, fun w => by go_simp⟩, fun _ => rfl⟩ ?_
                refine wpAnyIn_done (by kernel_rfl) ?_ _
                gi_wp2
                go_roundw
                case rel => exact ⟨p + 1, k, by omega, by omega, hk, by go_num, HJ2.out, ⟨by rw [HD.out, HST.out, if_neg (by simp [HF.out])]⟩, HL2⟩
                case measure => simp [intOf]; omega
        · rw [Bool.not_eq_true] at hbl
          rw [hbl] at hblk
          have HBL := Aside0.mk hblk
          have HN := Aside0.mk (HD.out.trans (HST.out.trans (if_pos (by rw [hbl, his]; rfl))))
          clear hblk hbl his hys
          gi_wp2_with fail
          refine wpIn_region_any hfo ?_
          change wpAnyIn _ _ _ _ _ _ _ _ _ (World.drew _)
          refine wpAnyIn_take (i := 2) (v := (.int .i64 (p : Int))) rfl rfl (by kernel_rfl) (by kernel_rfl) (by kernel_rfl) (fun _ _ _ h => h) ⟨Or.inl ⟨rfl, fun w => by go_simp⟩, fun _ => rfl⟩ ?_
          refine wpAnyIn_ready (rs := [0, 1]) (by kernel_rfl) (by simp) ?_
          refine AllReadyIn.cons rfl (fun K hK => ?_) (AllReadyIn.cons rfl (fun K hK => ?_) AllReadyIn.nil)
          · go_simp
            refine hK _ _ ?_
            clear hK K
            refine wpAnyIn_ready (rs := [1]) (by kernel_rfl) (by simp) ?_
            refine AllReadyIn.cons rfl (fun K hK => ?_) AllReadyIn.nil
            go_simp
            refine hK _ _ ?_
            clear hK K
            refine wpAnyIn_take (i := 3) (v := (.pointer (some (ad.add (p * 6))))) rfl rfl (by kernel_rfl) (by kernel_rfl) (by kernel_rfl) (fun _ _ _ h => h) ⟨Or.inl ⟨rfl, fun w => by go_simp⟩, fun _ => rfl⟩ ?_
            refine wpAnyIn_ready (rs := [4]) (by kernel_rfl) (by simp) ?_
            refine AllReadyIn.cons rfl (fun K hK => ?_) AllReadyIn.nil
            go_simp
            refine hK _ _ ?_
            clear hK K
            refine wpAnyIn_ready (rs := [5]) (by kernel_rfl) (by simp) ?_
            refine AllReadyIn.cons rfl (fun K hK => ?_) AllReadyIn.nil
            go_simp
            refine ⟨trivial, (callsIn_wide.2 (HP.out c _)).mono ?_⟩
            rintro e w1 ⟨rfl, hb1⟩
            rw [HIS.out]
            refine hK _ _ ?_
            clear hK K
            have hL1 : ∀ O, Lv O wr w1 := fun O => (Lv.drew O wr).trans (Lv.of_below hb1)
            have HJ1 := Aside0.mk (hJ _ _ _ hJs (hL1 _))
            have HL1 := Aside0.mk (HL.out.trans (hL1 _))
            have HB1 := Aside0.mk (below_step HBW.out (below_step ((Below.refl _ wr).drew) hb1))
            clear hb1 hL1 hJs
            clear hfW htW hsW hlW
            have hfW := (boxed_lv HL1.out hf hOf).cell
            have hlW := (boxed_lv HL1.out hl hOl).cell
            refine wpAnyIn_take (i := 6) (v := (.bool true)) rfl rfl (by kernel_rfl) (by kernel_rfl) (by kernel_rfl) (fun _ _ _ h => h) ⟨Or.inl ⟨rfl, fun w => by go_simp⟩, fun _ => rfl⟩ ?_
            refine wpAnyIn_take (i := 9) (v := (.int .i64 (p : Int))) rfl rfl (by kernel_rfl) (by kernel_rfl) (by kernel_rfl) (fun _ _ _ h => h) ⟨Or.inl ⟨rfl, fun w => by go_simp⟩, fun _ => rfl⟩ ?_
            refine wpAnyIn_ready (rs := [7, 8]) (by kernel_rfl) (by simp) ?_
            refine AllReadyIn.cons rfl (fun K hK => ?_) (AllReadyIn.cons rfl (fun K hK => ?_) AllReadyIn.nil)
            · go_simp
              refine hK _ _ ?_
              clear hK K
              refine wpAnyIn_ready (rs := [8]) (by kernel_rfl) (by simp) ?_
              refine AllReadyIn.cons rfl (fun K hK => ?_) AllReadyIn.nil
              go_simp
              refine hK _ _ ?_
              clear hK K
              refine wpAnyIn_ready (rs := [10]) (by kernel_rfl) (by simp) ?_
              refine AllReadyIn.cons rfl (fun K hK => ?_) AllReadyIn.nil
              go_simp
              refine hK _ _ ?_
              clear hK K
              refine wpAnyIn_ready (rs := [11]) (by kernel_rfl) (by simp) ?_
              refine AllReadyIn.cons rfl (fun K hK => ?_) AllReadyIn.nil
              go_simp
              refine ⟨trivial, (callsIn_wide.2 (HBL.out w1 HB1.out)).mono ?_⟩
              rintro e w2 ⟨rfl, hb2⟩
              refine hK _ _ ?_
              clear hK K
              have hL2 : ∀ O, Lv O w1 w2 := fun O => Lv.of_below hb2
              have HJ2 := Aside0.mk (hJ _ _ _ HJ1.out (hL2 _))
              have HL2 := Aside0.mk (HL1.out.trans (hL2 _))
              clear hb2 hL2
              refine wpAnyIn_take (i := 12) (v := (.bool true)) rfl rfl (by kernel_rfl) (by kernel_rfl) (by kernel_rfl) (fun _ _ _ h => h) ⟨Or.inl ⟨rfl, fun w => by go_simp⟩, fun _ => rfl⟩ ?_
              refine wpAnyIn_take (i := 13) (v := (.bool true)) rfl rfl (by kernel_rfl) (by kernel_rfl) (by kernel_rfl) (fun _ _ _ h => h) ⟨Or.inl ⟨rfl, fun w => by go_simp⟩, fun _ => rfl⟩ ?_
              refine wpAnyIn_take (i := 14) (v := (.bool true)) rfl rfl (by kernel_rfl) (by kernel_rfl) (by kernel_rfl) (fun _ _ _ h => h) ⟨Or.inl ⟨rfl, fun w => by go_simp⟩, fun _ => rfl⟩ ?_
              refine wpAnyIn_take (i := 15) (v := (.func (.yield l) #[] #[])) rfl rfl (by kernel_rfl) (by kernel_rfl) (by kernel_rfl) (fun _ _ _ h => h) ⟨Or.inl ⟨rfl, fun w => by go_simp⟩, fun _ => rfl⟩ ?_
              refine wpAnyIn_take (i := 16) (v := (.int .i64 (p : Int))) rfl rfl (by kernel_rfl) (by kernel_rfl) (by kernel_rfl) (fun _ _ _ h => h) ⟨Or.inl ⟨rfl, fun w => by go_simp⟩, fun _ => rfl⟩ ?_
              obtain ⟨fn, tm, asg, bd, hyl, hR⟩ := yieldAt_of hY HN.out _ HJ2.out
              unfold encEnd at hyl
              clear hcut
              refine wpAnyIn_ready (rs := [17]) (by kernel_rfl) (by simp) ?_
              refine AllReadyIn.cons rfl (fun K hK => ?_) AllReadyIn.nil
              go_simp
              refine hR.mono ?_
              rintro e W3 (⟨rfl, hJ3, hk3⟩ | ⟨rfl, hJx3, hk3⟩)
              · refine hK _ _ ?_
                clear hK K
                have HL3 := Aside0.mk (HL2.out.trans hk3)
                have HJ3 := Aside0.mk hJ3
                have HD3 := Aside0.mk (drop_at HN.out).2.2
                have HK3 := Aside0.mk (drop_at HN.out).1
                clear hk3 hyl hR hJ3
                refine wpAnyIn_take (i := 18) (v := (.bool false)) rfl rfl (by kernel_rfl) (by kernel_rfl) (by kernel_rfl) (fun _ _ _ h => h) ⟨Or.inl ⟨rfl, fun w => by go_simp⟩, fun _ => rfl⟩ ?_
                refine wpAnyIn_take (i := 19) (v := (.bool false)) rfl rfl (by kernel_rfl) (by kernel_rfl) (by kernel_rfl) (fun _ _ _ h => h) ⟨Or.inl ⟨rfl, fun w => by go_simp⟩, fun _ => rfl⟩ ?_
                refine wpAnyIn_done (by kernel_rfl) ?_ _
                gi_wp2
                go_roundw
                case rel => exact ⟨p + 1, k + 1, by omega, by omega, HK3.out, by go_num, HJ3.out, HD3, HL3⟩
                case measure => simp [intOf]; omega
              · refine hK _ _ ?_
                clear hK K
                have HK3 := Aside0.mk (drop_at HN.out).1
                have HX3 := Aside0.mk hJx3
                clear hk3 hyl hR hJx3
                refine wpAnyIn_take (i := 18) (v := (.bool true)) rfl rfl (by kernel_rfl) (by kernel_rfl) (by kernel_rfl) (fun _ _ _ h => h) ⟨Or.inl ⟨rfl, fun w => by go_simp⟩, fun _ => rfl⟩ ?_
                refine wpAnyIn_take (i := 19) (v := (.bool true)) rfl rfl (by kernel_rfl) (by kernel_rfl) (by kernel_rfl) (fun _ _ _ h => h) ⟨Or.inl ⟨rfl, fun w => by go_simp⟩, fun _ => rfl⟩ ?_
                refine wpAnyIn_done (by kernel_rfl) ?_ _
                gi_wp2
                refine bodyPost_ret (results_none rfl _ _ _) rfl ?_
                exact ⟨⟨_, rfl⟩, .inr ⟨k + 1, by rw [List.length_map]; exact HK3.out, HX3.out⟩⟩
            · go_simp
              refine hK _ _ ?_
              clear hK K
              refine wpAnyIn_ready (rs := [7]) (by kernel_rfl) (by simp) ?_
              refine AllReadyIn.cons rfl (fun K hK => ?_) AllReadyIn.nil
              go_simp
              refine hK _ _ ?_
              clear hK K
              refine wpAnyIn_ready (rs := [10]) (by kernel_rfl) (by simp) ?_
              refine AllReadyIn.cons rfl (fun K hK => ?_) AllReadyIn.nil
              go_simp
              refine hK _ _ ?_
              clear hK K
              refine wpAnyIn_ready (rs := [11]) (by kernel_rfl) (by simp) ?_
              refine AllReadyIn.cons rfl (fun K hK => ?_) AllReadyIn.nil
              go_simp
              refine ⟨trivial, (callsIn_wide.2 (HBL.out w1 HB1.out)).mono ?_⟩
              rintro e w2 ⟨rfl, hb2⟩
              refine hK _ _ ?_
              clear hK K
              have hL2 : ∀ O, Lv O w1 w2 := fun O => Lv.of_below hb2
              have HJ2 := Aside0.mk (hJ _ _ _ HJ1.out (hL2 _))
              have HL2 := Aside0.mk (HL1.out.trans (hL2 _))
              clear hb2 hL2
              refine wpAnyIn_take (i := 12) (v := (.bool true)) rfl rfl (by kernel_rfl) (by kernel_rfl) (by kernel_rfl) (fun _ _ _ h => h) ⟨Or.inl ⟨rfl, fun w => by go_simp⟩, fun _ => rfl⟩ ?_
              refine wpAnyIn_take (i := 13) (v := (.bool true)) rfl rfl (by kernel_rfl) (by kernel_rfl) (by kernel_rfl) (fun _ _ _ h => h) ⟨Or.inl ⟨rfl, fun w => by go_simp⟩, fun _ => rfl⟩ ?_
              refine wpAnyIn_take (i := 14) (v := (.bool true)) rfl rfl (by kernel_rfl) (by kernel_rfl) (by kernel_rfl) (fun _ _ _ h => h) ⟨Or.inl ⟨rfl, fun w => by go_simp⟩, fun _ => rfl⟩ ?_
              refine wpAnyIn_take (i := 15) (v := (.func (.yield l) #[] #[])) rfl rfl (by kernel_rfl) (by kernel_rfl) (by kernel_rfl) (fun _ _ _ h => h) ⟨Or.inl ⟨rfl, fun w => by go_simp⟩, fun _ => rfl⟩ ?_
              refine wpAnyIn_take (i := 16) (v := (.int .i64 (p : Int))) rfl rfl (by kernel_rfl) (by kernel_rfl) (by kernel_rfl) (fun _ _ _ h => h) ⟨Or.inl ⟨rfl, fun w => by go_simp⟩, fun _ => rfl⟩ ?_
              obtain ⟨fn, tm, asg, bd, hyl, hR⟩ := yieldAt_of hY HN.out _ HJ2.out
              unfold encEnd at hyl
              clear hcut
              refine wpAnyIn_ready (rs := [17]) (by kernel_rfl) (by simp) ?_
              refine AllReadyIn.cons rfl (fun K hK => ?_) AllReadyIn.nil
              go_simp
              refine hR.mono ?_
              rintro e W3 (⟨rfl, hJ3, hk3⟩ | ⟨rfl, hJx3, hk3⟩)
              · refine hK _ _ ?_
                clear hK K
                have HL3 := Aside0.mk (HL2.out.trans hk3)
                have HJ3 := Aside0.mk hJ3
                have HD3 := Aside0.mk (drop_at HN.out).2.2
                have HK3 := Aside0.mk (drop_at HN.out).1
                clear hk3 hyl hR hJ3
                refine wpAnyIn_take (i := 18) (v := (.bool false)) rfl rfl (by kernel_rfl) (by kernel_rfl) (by kernel_rfl) (fun _ _ _ h => h) ⟨Or.inl ⟨rfl, fun w => by go_simp⟩, fun _ => rfl⟩ ?_
                refine wpAnyIn_take (i := 19) (v := (.bool false)) rfl rfl (by kernel_rfl) (by kernel_rfl) (by kernel_rfl) (fun _ _ _ h => h) ⟨Or.inl ⟨rfl, fun w => by go_simp⟩, fun _ => rfl⟩ ?_
                refine wpAnyIn_done (by kernel_rfl) ?_ _
                gi_wp2
                go_roundw
                case rel => exact ⟨p + 1, k + 1, by omega, by omega, HK3.out, by go_num, HJ3.out, HD3, HL3⟩
                case measure => simp [intOf]; omega
              · refine hK _ _ ?_
                clear hK K
                have HK3 := Aside0.mk (drop_at HN.out).1
                have HX3 := Aside0.mk hJx3
                clear hk3 hyl hR hJx3
                refine wpAnyIn_take (i := 18) (v := (.bool true)) rfl rfl (by kernel_rfl) (by kernel_rfl) (by kernel_rfl) (fun _ _ _ h => h) ⟨Or.inl ⟨rfl, fun w => by go_simp⟩, fun _ => rfl⟩ ?_
                refine wpAnyIn_take (i := 19) (v := (.bool true)) rfl rfl (by kernel_rfl) (by kernel_rfl) (by kernel_rfl) (fun _ _ _ h => h) ⟨Or.inl ⟨rfl, fun w => by go_simp⟩, fun _ => rfl⟩ ?_
                refine wpAnyIn_done (by kernel_rfl) ?_ _
                gi_wp2
                refine bodyPost_ret (results_none rfl _ _ _) rfl ?_
                exact ⟨⟨_, rfl⟩, .inr ⟨k + 1, by rw [List.length_map]; exact HK3.out, HX3.out⟩⟩
          · go_simp
            refine hK _ _ ?_
            clear hK K
            refine wpAnyIn_take (i := 3) (v := (.pointer (some (ad.add (p * 6))))) rfl rfl (by kernel_rfl) (by kernel_rfl) (by kernel_rfl) (fun _ _ _ h => h) ⟨Or.inl ⟨rfl, fun w => by go_simp⟩, fun _ => rfl⟩ ?_
            refine wpAnyIn_ready (rs := [0, 4]) (by kernel_rfl) (by simp) ?_
            refine AllReadyIn.cons rfl (fun K hK => ?_) (AllReadyIn.cons rfl (fun K hK => ?_) AllReadyIn.nil)
            · go_simp
              refine hK _ _ ?_
              clear hK K
              refine wpAnyIn_ready (rs := [4]) (by kernel_rfl) (by simp) ?_
              refine AllReadyIn.cons rfl (fun K hK => ?_) AllReadyIn.nil
              go_simp
              refine hK _ _ ?_
              clear hK K
              refine wpAnyIn_ready (rs := [5]) (by kernel_rfl) (by simp) ?_
              refine AllReadyIn.cons rfl (fun K hK => ?_) AllReadyIn.nil
              go_simp
              refine ⟨trivial, (callsIn_wide.2 (HP.out c _)).mono ?_⟩
              rintro e w1 ⟨rfl, hb1⟩
              rw [HIS.out]
              refine hK _ _ ?_
              clear hK K
              have hL1 : ∀ O, Lv O wr w1 := fun O => (Lv.drew O wr).trans (Lv.of_below hb1)
              have HJ1 := Aside0.mk (hJ _ _ _ hJs (hL1 _))
              have HL1 := Aside0.mk (HL.out.trans (hL1 _))
              have HB1 := Aside0.mk (below_step HBW.out (below_step ((Below.refl _ wr).drew) hb1))
              clear hb1 hL1 hJs
              clear hfW htW hsW hlW
              have hfW := (boxed_lv HL1.out hf hOf).cell
              have hlW := (boxed_lv HL1.out hl hOl).cell
              refine wpAnyIn_take (i := 6) (v := (.bool true)) rfl rfl (by kernel_rfl) (by kernel_rfl) (by kernel_rfl) (fun _ _ _ h => h) ⟨Or.inl ⟨rfl, fun w => by go_simp⟩, fun _ => rfl⟩ ?_
              refine wpAnyIn_take (i := 9) (v := (.int .i64 (p : Int))) rfl rfl (by kernel_rfl) (by kernel_rfl) (by kernel_rfl) (fun _ _ _ h => h) ⟨Or.inl ⟨rfl, fun w => by go_simp⟩, fun _ => rfl⟩ ?_
              refine wpAnyIn_ready (rs := [7, 8]) (by kernel_rfl) (by simp) ?_
              refine AllReadyIn.cons rfl (fun K hK => ?_) (AllReadyIn.cons rfl (fun K hK => ?_) AllReadyIn.nil)
              · go_simp
                refine hK _ _ ?_
                clear hK K
                refine wpAnyIn_ready (rs := [8]) (by kernel_rfl) (by simp) ?_
                refine AllReadyIn.cons rfl (fun K hK => ?_) AllReadyIn.nil
                go_simp
                refine hK _ _ ?_
                clear hK K
                refine wpAnyIn_ready (rs := [10]) (by kernel_rfl) (by simp) ?_
                refine AllReadyIn.cons rfl (fun K hK => ?_) AllReadyIn.nil
                go_simp
                refine hK _ _ ?_
                clear hK K
                refine wpAnyIn_ready (rs := [11]) (by kernel_rfl) (by simp) ?_
                refine AllReadyIn.cons rfl (fun K hK => ?_) AllReadyIn.nil
                go_simp
                refine ⟨trivial, (callsIn_wide.2 (HBL.out w1 HB1.out)).mono ?_⟩
                rintro e w2 ⟨rfl, hb2⟩
                refine hK _ _ ?_
                clear hK K
                have hL2 : ∀ O, Lv O w1 w2 := fun O => Lv.of_below hb2
                have HJ2 := Aside0.mk (hJ _ _ _ HJ1.out (hL2 _))
                have HL2 := Aside0.mk (HL1.out.trans (hL2 _))
                clear hb2 hL2
                refine wpAnyIn_take (i := 12) (v := (.bool true)) rfl rfl (by kernel_rfl) (by kernel_rfl) (by kernel_rfl) (fun _ _ _ h => h) ⟨Or.inl ⟨rfl, fun w => by go_simp⟩, fun _ => rfl⟩ ?_
                refine wpAnyIn_take (i := 13) (v := (.bool true)) rfl rfl (by kernel_rfl) (by kernel_rfl) (by kernel_rfl) (fun _ _ _ h => h) ⟨Or.inl ⟨rfl, fun w => by go_simp⟩, fun _ => rfl⟩ ?_
                refine wpAnyIn_take (i := 14) (v := (.bool true)) rfl rfl (by kernel_rfl) (by kernel_rfl) (by kernel_rfl) (fun _ _ _ h => h) ⟨Or.inl ⟨rfl, fun w => by go_simp⟩, fun _ => rfl⟩ ?_
                refine wpAnyIn_take (i := 15) (v := (.func (.yield l) #[] #[])) rfl rfl (by kernel_rfl) (by kernel_rfl) (by kernel_rfl) (fun _ _ _ h => h) ⟨Or.inl ⟨rfl, fun w => by go_simp⟩, fun _ => rfl⟩ ?_
                refine wpAnyIn_take (i := 16) (v := (.int .i64 (p : Int))) rfl rfl (by kernel_rfl) (by kernel_rfl) (by kernel_rfl) (fun _ _ _ h => h) ⟨Or.inl ⟨rfl, fun w => by go_simp⟩, fun _ => rfl⟩ ?_
                obtain ⟨fn, tm, asg, bd, hyl, hR⟩ := yieldAt_of hY HN.out _ HJ2.out
                unfold encEnd at hyl
                clear hcut
                refine wpAnyIn_ready (rs := [17]) (by kernel_rfl) (by simp) ?_
                refine AllReadyIn.cons rfl (fun K hK => ?_) AllReadyIn.nil
                go_simp
                refine hR.mono ?_
                rintro e W3 (⟨rfl, hJ3, hk3⟩ | ⟨rfl, hJx3, hk3⟩)
                · refine hK _ _ ?_
                  clear hK K
                  have HL3 := Aside0.mk (HL2.out.trans hk3)
                  have HJ3 := Aside0.mk hJ3
                  have HD3 := Aside0.mk (drop_at HN.out).2.2
                  have HK3 := Aside0.mk (drop_at HN.out).1
                  clear hk3 hyl hR hJ3
                  refine wpAnyIn_take (i := 18) (v := (.bool false)) rfl rfl (by kernel_rfl) (by kernel_rfl) (by kernel_rfl) (fun _ _ _ h => h) ⟨Or.inl ⟨rfl, fun w => by go_simp⟩, fun _ => rfl⟩ ?_
                  refine wpAnyIn_take (i := 19) (v := (.bool false)) rfl rfl (by kernel_rfl) (by kernel_rfl) (by kernel_rfl) (fun _ _ _ h => h) ⟨Or.inl ⟨rfl, fun w => by go_simp⟩, fun _ => rfl⟩ ?_
                  refine wpAnyIn_done (by kernel_rfl) ?_ _
                  gi_wp2
                  go_roundw
                  case rel => exact ⟨p + 1, k + 1, by omega, by omega, HK3.out, by go_num, HJ3.out, HD3, HL3⟩
                  case measure => simp [intOf]; omega
                · refine hK _ _ ?_
                  clear hK K
                  have HK3 := Aside0.mk (drop_at HN.out).1
                  have HX3 := Aside0.mk hJx3
                  clear hk3 hyl hR hJx3
                  refine wpAnyIn_take (i := 18) (v := (.bool true)) rfl rfl (by kernel_rfl) (by kernel_rfl) (by kernel_rfl) (fun _ _ _ h => h) ⟨Or.inl ⟨rfl, fun w => by go_simp⟩, fun _ => rfl⟩ ?_
                  refine wpAnyIn_take (i := 19) (v := (.bool true)) rfl rfl (by kernel_rfl) (by kernel_rfl) (by kernel_rfl) (fun _ _ _ h => h) ⟨Or.inl ⟨rfl, fun w => by go_simp⟩, fun _ => rfl⟩ ?_
                  refine wpAnyIn_done (by kernel_rfl) ?_ _
                  gi_wp2
                  refine bodyPost_ret (results_none rfl _ _ _) rfl ?_
                  exact ⟨⟨_, rfl⟩, .inr ⟨k + 1, by rw [List.length_map]; exact HK3.out, HX3.out⟩⟩
              · go_simp
                refine hK _ _ ?_
                clear hK K
                refine wpAnyIn_ready (rs := [7]) (by kernel_rfl) (by simp) ?_
                refine AllReadyIn.cons rfl (fun K hK => ?_) AllReadyIn.nil
                go_simp
                refine hK _ _ ?_
                clear hK K
                refine wpAnyIn_ready (rs := [10]) (by kernel_rfl) (by simp) ?_
                refine AllReadyIn.cons rfl (fun K hK => ?_) AllReadyIn.nil
                go_simp
                refine hK _ _ ?_
                clear hK K
                refine wpAnyIn_ready (rs := [11]) (by kernel_rfl) (by simp) ?_
                refine AllReadyIn.cons rfl (fun K hK => ?_) AllReadyIn.nil
                go_simp
                refine ⟨trivial, (callsIn_wide.2 (HBL.out w1 HB1.out)).mono ?_⟩
                rintro e w2 ⟨rfl, hb2⟩
                refine hK _ _ ?_
                clear hK K
                have hL2 : ∀ O, Lv O w1 w2 := fun O => Lv.of_below hb2
                have HJ2 := Aside0.mk (hJ _ _ _ HJ1.out (hL2 _))
                have HL2 := Aside0.mk (HL1.out.trans (hL2 _))
                clear hb2 hL2
                refine wpAnyIn_take (i := 12) (v := (.bool true)) rfl rfl (by kernel_rfl) (by kernel_rfl) (by kernel_rfl) (fun _ _ _ h => h) ⟨Or.inl ⟨rfl, fun w => by go_simp⟩, fun _ => rfl⟩ ?_
                refine wpAnyIn_take (i := 13) (v := (.bool true)) rfl rfl (by kernel_rfl) (by kernel_rfl) (by kernel_rfl) (fun _ _ _ h => h) ⟨Or.inl ⟨rfl, fun w => by go_simp⟩, fun _ => rfl⟩ ?_
                refine wpAnyIn_take (i := 14) (v := (.bool true)) rfl rfl (by kernel_rfl) (by kernel_rfl) (by kernel_rfl) (fun _ _ _ h => h) ⟨Or.inl ⟨rfl, fun w => by go_simp⟩, fun _ => rfl⟩ ?_
                refine wpAnyIn_take (i := 15) (v := (.func (.yield l) #[] #[])) rfl rfl (by kernel_rfl) (by kernel_rfl) (by kernel_rfl) (fun _ _ _ h => h) ⟨Or.inl ⟨rfl, fun w => by go_simp⟩, fun _ => rfl⟩ ?_
                refine wpAnyIn_take (i := 16) (v := (.int .i64 (p : Int))) rfl rfl (by kernel_rfl) (by kernel_rfl) (by kernel_rfl) (fun _ _ _ h => h) ⟨Or.inl ⟨rfl, fun w => by go_simp⟩, fun _ => rfl⟩ ?_
                obtain ⟨fn, tm, asg, bd, hyl, hR⟩ := yieldAt_of hY HN.out _ HJ2.out
                unfold encEnd at hyl
                clear hcut
                refine wpAnyIn_ready (rs := [17]) (by kernel_rfl) (by simp) ?_
                refine AllReadyIn.cons rfl (fun K hK => ?_) AllReadyIn.nil
                go_simp
                refine hR.mono ?_
                rintro e W3 (⟨rfl, hJ3, hk3⟩ | ⟨rfl, hJx3, hk3⟩)
                · refine hK _ _ ?_
                  clear hK K
                  have HL3 := Aside0.mk (HL2.out.trans hk3)
                  have HJ3 := Aside0.mk hJ3
                  have HD3 := Aside0.mk (drop_at HN.out).2.2
                  have HK3 := Aside0.mk (drop_at HN.out).1
                  clear hk3 hyl hR hJ3
                  refine wpAnyIn_take (i := 18) (v := (.bool false)) rfl rfl (by kernel_rfl) (by kernel_rfl) (by kernel_rfl) (fun _ _ _ h => h) ⟨Or.inl ⟨rfl, fun w => by go_simp⟩, fun _ => rfl⟩ ?_
                  refine wpAnyIn_take (i := 19) (v := (.bool false)) rfl rfl (by kernel_rfl) (by kernel_rfl) (by kernel_rfl) (fun _ _ _ h => h) ⟨Or.inl ⟨rfl, fun w => by go_simp⟩, fun _ => rfl⟩ ?_
                  refine wpAnyIn_done (by kernel_rfl) ?_ _
                  gi_wp2
                  go_roundw
                  case rel => exact ⟨p + 1, k + 1, by omega, by omega, HK3.out, by go_num, HJ3.out, HD3, HL3⟩
                  case measure => simp [intOf]; omega
                · refine hK _ _ ?_
                  clear hK K
                  have HK3 := Aside0.mk (drop_at HN.out).1
                  have HX3 := Aside0.mk hJx3
                  clear hk3 hyl hR hJx3
                  refine wpAnyIn_take (i := 18) (v := (.bool true)) rfl rfl (by kernel_rfl) (by kernel_rfl) (by kernel_rfl) (fun _ _ _ h => h) ⟨Or.inl ⟨rfl, fun w => by go_simp⟩, fun _ => rfl⟩ ?_
                  refine wpAnyIn_take (i := 19) (v := (.bool true)) rfl rfl (by kernel_rfl) (by kernel_rfl) (by kernel_rfl) (fun _ _ _ h => h) ⟨Or.inl ⟨rfl, fun w => by go_simp⟩, fun _ => rfl⟩ ?_
                  refine wpAnyIn_done (by kernel_rfl) ?_ _
                  gi_wp2
                  refine bodyPost_ret (results_none rfl _ _ _) rfl ?_
                  exact ⟨⟨_, rfl⟩, .inr ⟨k + 1, by rw [List.length_map]; exact HK3.out, HX3.out⟩⟩
            · go_simp
              refine hK _ _ ?_
              clear hK K
              refine wpAnyIn_ready (rs := [0]) (by kernel_rfl) (by simp) ?_
              refine AllReadyIn.cons rfl (fun K hK => ?_) AllReadyIn.nil
              go_simp
              refine hK _ _ ?_
              clear hK K
              refine wpAnyIn_ready (rs := [5]) (by kernel_rfl) (by simp) ?_
              refine AllReadyIn.cons rfl (fun K hK => ?_) AllReadyIn.nil
              go_simp
              refine ⟨trivial, (callsIn_wide.2 (HP.out c _)).mono ?_⟩
              rintro e w1 ⟨rfl, hb1⟩
              rw [HIS.out]
              refine hK _ _ ?_
              clear hK K
              have hL1 : ∀ O, Lv O wr w1 := fun O => (Lv.drew O wr).trans (Lv.of_below hb1)
              have HJ1 := Aside0.mk (hJ _ _ _ hJs (hL1 _))
              have HL1 := Aside0.mk (HL.out.trans (hL1 _))
              have HB1 := Aside0.mk (below_step HBW.out (below_step ((Below.refl _ wr).drew) hb1))
              clear hb1 hL1 hJs
              clear hfW htW hsW hlW
              have hfW := (boxed_lv HL1.out hf hOf).cell
              have hlW := (boxed_lv HL1.out hl hOl).cell
              refine wpAnyIn_take (i := 6) (v := (.bool true)) rfl rfl (by kernel_rfl) (by kernel_rfl) (by kernel_rfl) (fun _ _ _ h => h) ⟨Or.inl ⟨rfl, fun w => by go_simp⟩, fun _ => rfl⟩ ?_
              refine wpAnyIn_take (i := 9) (v := (.int .i64 (p : Int))) rfl rfl (by kernel_rfl) (by kernel_rfl) (by kernel_rfl) (fun _ _ _ h => h) ⟨Or.inl ⟨rfl, fun w => by go_simp⟩, fun _ => rfl⟩ ?_
              refine wpAnyIn_ready (rs := [7, 8]) (by kernel_rfl) (by simp) ?_
              refine AllReadyIn.cons rfl (fun K hK => ?_) (AllReadyIn.cons rfl (fun K hK => ?_) AllReadyIn.nil)
              · go_simp
                refine hK _ _ ?_
                clear hK K
                refine wpAnyIn_ready (rs := [8]) (by kernel_rfl) (by simp) ?_
                refine AllReadyIn.cons rfl (fun K hK => ?_) AllReadyIn.nil
                go_simp
                refine hK _ _ ?_
                clear hK K
                refine wpAnyIn_ready (rs := [10]) (by kernel_rfl) (by simp) ?_
                refine AllReadyIn.cons rfl (fun K hK => ?_) AllReadyIn.nil
                go_simp
                refine hK _ _ ?_
                clear hK K
                refine wpAnyIn_ready (rs := [11]) (by kernel_rfl) (by simp) ?_
                refine AllReadyIn.cons rfl (fun K hK => ?_) AllReadyIn.nil
                go_simp
                refine ⟨trivial, (callsIn_wide.2 (HBL.out w1 HB1.out)).mono ?_⟩
                rintro e w2 ⟨rfl, hb2⟩
                refine hK _ _ ?_
                clear hK K
                have hL2 : ∀ O, Lv O w1 w2 := fun O => Lv.of_below hb2
                have HJ2 := Aside0.mk (hJ _ _ _ HJ1.out (hL2 _))
                have HL2 := Aside0.mk (HL1.out.trans (hL2 _))
                clear hb2 hL2
                refine wpAnyIn_take (i := 12) (v := (.bool true)) rfl rfl (by kernel_rfl) (by kernel_rfl) (by kernel_rfl) (fun _ _ _ h => h) ⟨Or.inl ⟨rfl, fun w => by go_simp⟩, fun _ => rfl⟩ ?_
                refine wpAnyIn_take (i := 13) (v := (.bool true)) rfl rfl (by kernel_rfl) (by kernel_rfl) (by kernel_rfl) (fun _ _ _ h => h) ⟨Or.inl ⟨rfl, fun w => by go_simp⟩, fun _ => rfl⟩ ?_
                refine wpAnyIn_take (i := 14) (v := (.bool true)) rfl rfl (by kernel_rfl) (by kernel_rfl) (by kernel_rfl) (fun _ _ _ h => h) ⟨Or.inl ⟨rfl, fun w => by go_simp⟩, fun _ => rfl⟩ ?_
                refine wpAnyIn_take (i := 15) (v := (.func (.yield l) #[] #[])) rfl rfl (by kernel_rfl) (by kernel_rfl) (by kernel_rfl) (fun _ _ _ h => h) ⟨Or.inl ⟨rfl, fun w => by go_simp⟩, fun _ => rfl⟩ ?_
                refine wpAnyIn_take (i := 16) (v := (.int .i64 (p : Int))) rfl rfl (by kernel_rfl) (by kernel_rfl) (by kernel_rfl) (fun _ _ _ h => h) ⟨Or.inl ⟨rfl, fun w => by go_simp⟩, fun _ => rfl⟩ ?_
                obtain ⟨fn, tm, asg, bd, hyl, hR⟩ := yieldAt_of hY HN.out _ HJ2.out
                unfold encEnd at hyl
                clear hcut
                refine wpAnyIn_ready (rs := [17]) (by kernel_rfl) (by simp) ?_
                refine AllReadyIn.cons rfl (fun K hK => ?_) AllReadyIn.nil
                go_simp
                refine hR.mono ?_
                rintro e W3 (⟨rfl, hJ3, hk3⟩ | ⟨rfl, hJx3, hk3⟩)
                · refine hK _ _ ?_
                  clear hK K
                  have HL3 := Aside0.mk (HL2.out.trans hk3)
                  have HJ3 := Aside0.mk hJ3
                  have HD3 := Aside0.mk (drop_at HN.out).2.2
                  have HK3 := Aside0.mk (drop_at HN.out).1
                  clear hk3 hyl hR hJ3
                  refine wpAnyIn_take (i := 18) (v := (.bool false)) rfl rfl (by kernel_rfl) (by kernel_rfl) (by kernel_rfl) (fun _ _ _ h => h) ⟨Or.inl ⟨rfl, fun w => by go_simp⟩, fun _ => rfl⟩ ?_
                  refine wpAnyIn_take (i := 19) (v := (.bool false)) rfl rfl (by kernel_rfl) (by kernel_rfl) (by kernel_rfl) (fun _ _ _ h => h) ⟨Or.inl ⟨rfl, fun w => by go_simp⟩, fun _ => rfl⟩ ?_
                  refine wpAnyIn_done (by kernel_rfl) ?_ _
                  gi_wp2
                  go_roundw
                  case rel => exact ⟨p + 1, k + 1, by omega, by omega, HK3.out, by go_num, HJ3.out, HD3, HL3⟩
                  case measure => simp [intOf]; omega
                · refine hK _ _ ?_
                  clear hK K
                  have HK3 := Aside0.mk (drop_at HN.out).1
                  have HX3 := Aside0.mk hJx3
                  clear hk3 hyl hR hJx3
                  refine wpAnyIn_take (i := 18) (v := (.bool true)) rfl rfl (by kernel_rfl) (by kernel_rfl) (by kernel_rfl) (fun _ _ _ h => h) ⟨Or.inl ⟨rfl, fun w => by go_simp⟩, fun _ => rfl⟩ ?_
                  refine wpAnyIn_take (i := 19) (v := (.bool true)) rfl rfl (by kernel_rfl) (by kernel_rfl) (by kernel_rfl) (fun _ _ _ h => h) ⟨Or.inl ⟨rfl, fun w => by go_simp⟩, fun _ => rfl⟩ ?_
                  refine wpAnyIn_done (by kernel_rfl) ?_ _
                  gi_wp2
                  refine bodyPost_ret (results_none rfl _ _ _) rfl ?_
                  exact ⟨⟨_, rfl⟩, .inr ⟨k + 1, by rw [List.length_map]; exact HK3.out, HX3.out⟩⟩
              · go_simp
                refine hK _ _ ?_
                clear hK K
                refine wpAnyIn_ready (rs := [7]) (by kernel_rfl) (by simp) ?_
                refine AllReadyIn.cons rfl (fun K hK => ?_) AllReadyIn.nil
                go_simp
                refine hK _ _ ?_
                clear hK K
                refine wpAnyIn_ready (rs := [10]) (by kernel_rfl) (by simp) ?_
                refine AllReadyIn.cons rfl (fun K hK => ?_) AllReadyIn.nil
                go_simp
                refine hK _ _ ?_
                clear hK K
                refine wpAnyIn_ready (rs := [11]) (by kernel_rfl) (by simp) ?_
                refine AllReadyIn.cons rfl (fun K hK => ?_) AllReadyIn.nil
                go_simp
                refine ⟨trivial, (callsIn_wide.2 (HBL.out w1 HB1.out)).mono ?_⟩
                rintro e w2 ⟨rfl, hb2⟩
                refine hK _ _ ?_
                clear hK K
                have hL2 : ∀ O, Lv O w1 w2 := fun O => Lv.of_below hb2
                have HJ2 := Aside0.mk (hJ _ _ _ HJ1.out (hL2 _))
                have HL2 := Aside0.mk (HL1.out.trans (hL2 _))
                clear hb2 hL2
                refine wpAnyIn_take (i := 12) (v := (.bool true)) rfl rfl (by kernel_rfl) (by kernel_rfl) (by kernel_rfl) (fun _ _ _ h => h) ⟨Or.inl ⟨rfl, fun w => by go_simp⟩, fun _ => rfl⟩ ?_
                refine wpAnyIn_take (i := 13) (v := (.bool true)) rfl rfl (by kernel_rfl) (by kernel_rfl) (by kernel_rfl) (fun _ _ _ h => h) ⟨Or.inl ⟨rfl, fun w => by go_simp⟩, fun _ => rfl⟩ ?_
                refine wpAnyIn_take (i := 14) (v := (.bool true)) rfl rfl (by kernel_rfl) (by kernel_rfl) (by kernel_rfl) (fun _ _ _ h => h) ⟨Or.inl ⟨rfl, fun w => by go_simp⟩, fun _ => rfl⟩ ?_
                refine wpAnyIn_take (i := 15) (v := (.func (.yield l) #[] #[])) rfl rfl (by kernel_rfl) (by kernel_rfl) (by kernel_rfl) (fun _ _ _ h => h) ⟨Or.inl ⟨rfl, fun w => by go_simp⟩, fun _ => rfl⟩ ?_
                refine wpAnyIn_take (i := 16) (v := (.int .i64 (p : Int))) rfl rfl (by kernel_rfl) (by kernel_rfl) (by kernel_rfl) (fun _ _ _ h => h) ⟨Or.inl ⟨rfl, fun w => by go_simp⟩, fun _ => rfl⟩ ?_
                obtain ⟨fn, tm, asg, bd, hyl, hR⟩ := yieldAt_of hY HN.out _ HJ2.out
                unfold encEnd at hyl
                clear hcut
                refine wpAnyIn_ready (rs := [17]) (by kernel_rfl) (by simp) ?_
                refine AllReadyIn.cons rfl (fun K hK => ?_) AllReadyIn.nil
                go_simp
                refine hR.mono ?_
                rintro e W3 (⟨rfl, hJ3, hk3⟩ | ⟨rfl, hJx3, hk3⟩)
                · refine hK _ _ ?_
                  clear hK K
                  have HL3 := Aside0.mk (HL2.out.trans hk3)
                  have HJ3 := Aside0.mk hJ3
                  have HD3 := Aside0.mk (drop_at HN.out).2.2
                  have HK3 := Aside0.mk (drop_at HN.out).1
                  clear hk3 hyl hR hJ3
                  refine wpAnyIn_take (i := 18) (v := (.bool false)) rfl rfl (by kernel_rfl) (by kernel_rfl) (by kernel_rfl) (fun _ _ _ h => h) ⟨Or.inl ⟨rfl, fun w => by go_simp⟩, fun _ => rfl⟩ ?_
                  refine wpAnyIn_take (i := 19) (v := (.bool false)) rfl rfl (by kernel_rfl) (by kernel_rfl) (by kernel_rfl) (fun _ _ _ h => h) ⟨Or.inl ⟨rfl, fun w => by go_simp⟩, fun _ => rfl⟩ ?_
                  refine wpAnyIn_done (by kernel_rfl) ?_ _
                  gi_wp2
                  go_roundw
                  case rel => exact ⟨p + 1, k + 1, by omega, by omega, HK3.out, by go_num, HJ3.out, HD3, HL3⟩
                  case measure => simp [intOf]; omega
                · refine hK _ _ ?_
                  clear hK K
                  have HK3 := Aside0.mk (drop_at HN.out).1
                  have HX3 := Aside0.mk hJx3
                  clear hk3 hyl hR hJx3
                  refine wpAnyIn_take (i := 18) (v := (.bool true)) rfl rfl (by kernel_rfl) (by kernel_rfl) (by kernel_rfl) (fun _ _ _ h => h) ⟨Or.inl ⟨rfl, fun w => by go_simp⟩, fun _ => rfl⟩ ?_
                  refine wpAnyIn_take (i := 19) (v := (.bool true)) rfl rfl (by kernel_rfl) (by kernel_rfl) (by kernel_rfl) (fun _ _ _ h => h) ⟨Or.inl ⟨rfl, fun w => by go_simp⟩, fun _ => rfl⟩ ?_
                  refine wpAnyIn_done (by kernel_rfl) ?_ _
                  gi_wp2
                  refine bodyPost_ret (results_none rfl _ _ _) rfl ?_
                  exact ⟨⟨_, rfl⟩, .inr ⟨k + 1, by rw [List.length_map]; exact HK3.out, HX3.out⟩⟩
      · have his' : is c = false := by simpa using his
        have HIS := Aside0.mk his'
        have HF := Aside0.mk (show (is c && !blkS ((l0.take p).drop fr)) = false by rw [his']; rfl)
        clear his his'
        gi_wp2_with fail
        refine wpIn_region_any hfo ?_
        change wpAnyIn _ _ _ _ _ _ _ _ _ (World.drew _)
        refine wpAnyIn_take (i := 2) (v := (.int .i64 (p : Int))) rfl rfl (by kernel_rfl) (by kernel_rfl) (by kernel_rfl) (fun _ _ _ h => h) ⟨Or.inl ⟨rfl, fun w => by go_simp⟩, fun _ => rfl⟩ ?_
        refine wpAnyIn_ready (rs := [0, 1]) (by kernel_rfl) (by simp) ?_
        refine AllReadyIn.cons rfl (fun K hK => ?_) (AllReadyIn.cons rfl (fun K hK => ?_) AllReadyIn.nil)
        · go_simp
          refine hK _ _ ?_
          clear hK K
          refine wpAnyIn_ready (rs := [1]) (by kernel_rfl) (by simp) ?_
          refine AllReadyIn.cons rfl (fun K hK => ?_) AllReadyIn.nil
          go_simp
          refine hK _ _ ?_
          clear hK K
          refine wpAnyIn_take (i := 3) (v := (.pointer (some (ad.add (p * 6))))) rfl rfl (by kernel_rfl) (by kernel_rfl) (by kernel_rfl) (fun _ _ _ h => h) ⟨Or.inl ⟨rfl, fun w => by go_simp⟩, fun _ => rfl⟩ ?_
          refine wpAnyIn_ready (rs := [4]) (by kernel_rfl) (by simp) ?_
          refine AllReadyIn.cons rfl (fun K hK => ?_) AllReadyIn.nil
          go_simp
          refine hK _ _ ?_
          clear hK K
          refine wpAnyIn_ready (rs := [5]) (by kernel_rfl) (by simp) ?_
          refine AllReadyIn.cons rfl (fun K hK => ?_) AllReadyIn.nil
          go_simp
          refine ⟨trivial, (callsIn_wide.2 (HP.out c _)).mono ?_⟩
          rintro e w1 ⟨rfl, hb1⟩
          rw [HIS.out]
          refine hK _ _ ?_
          clear hK K
          have hL1 : ∀ O, Lv O wr w1 := fun O => (Lv.drew O wr).trans (Lv.of_below hb1)
          have HJ1 := Aside0.mk (hJ _ _ _ hJs (hL1 _))
          have HL1 := Aside0.mk (HL.out.trans (hL1 _))
          have HB1 := Aside0.mk (below_step HBW.out (below_step ((Below.refl _ wr).drew) hb1))
          clear hb1 hL1 hJs
          refine wpAnyIn_take (i := 6) (v := (.bool false)) rfl rfl (by kernel_rfl) (by kernel_rfl) (by kernel_rfl) (fun _ _ _ h => h) ⟨Or.inl ⟨rfl, fun w => by go_simp⟩, fun _ => rfl⟩ ?_
          refine wpAnyIn_take (i := 7) (v := undef) rfl rfl (by kernel_rfl) (by kernel_rfl) (by kernel_rfl) (fun _ _ _ h => h) ⟨Or.inr ⟨rfl, rfl⟩, fun _ => rfl⟩ ?_
          refine wpAnyIn_take (i := 8) (v := undef) rfl rfl (by kernel_rfl) (by kernel_rfl) (by kernel_rfl) (fun _ _ _ h => h) ⟨Or.inr ⟨rfl, rfl⟩, fun _ => rfl⟩ ?_
          refine wpAnyIn_take (i := 9) (v := undef) rfl rfl (by kernel_rfl) (by kernel_rfl) (by kernel_rfl) (fun _ _ _ h => h) ⟨Or.inr ⟨rfl, rfl⟩, fun _ => rfl⟩ ?_
          refine wpAnyIn_take (i := 10) (v := undef) rfl rfl (by kernel_rfl) (by kernel_rfl) (by kernel_rfl) (fun _ _ _ h => h) ⟨Or.inr ⟨rfl, rfl⟩, fun _ => rfl⟩ ?_
          refine wpAnyIn_ready (rs := [11]) (by kernel_rfl) (by simp) ?_
          refine AllReadyIn.cons rfl (fun K hK => ?_) AllReadyIn.nil
          go_simp
          refine ⟨by first | exact trivial | exact fun _ _ => trivial, hK _ _ ?_⟩
          clear hK K
          refine wpAnyIn_take (i := 12) (v := undef) rfl rfl (by kernel_rfl) (by kernel_rfl) (by kernel_rfl) (fun _ _ _ h => h) ⟨Or.inr ⟨rfl, rfl⟩, fun _ => rfl⟩ ?_
          refine wpAnyIn_take (i := 13) (v := (.bool false)) rfl rfl (by kernel_rfl) (by kernel_rfl) (by kernel_rfl) (fun _ _ _ h => h) ⟨Or.inl ⟨rfl, fun w => by go_simp⟩, fun _ => rfl⟩ ?_
          refine wpAnyIn_take (i := 14) (v := (.bool false)) rfl rfl (by kernel_rfl) (by kernel_rfl) (by kernel_rfl) (fun _ _ _ h => h) ⟨Or.inl ⟨rfl, fun w => by go_simp⟩, fun _ => rfl⟩ ?_
          refine wpAnyIn_take (i := 15) (v := undef) rfl rfl (by kernel_rfl) (by kernel_rfl) (by kernel_rfl) (fun _ _ _ h => h) ⟨Or.inr ⟨rfl, rfl⟩, fun _ => rfl⟩ ?_
          refine wpAnyIn_take (i := 16) (v := undef) rfl rfl (by kernel_rfl) (by kernel_rfl) (by kernel_rfl) (fun _ _ _ h => h) ⟨Or.inr ⟨rfl, rfl⟩, fun _ => rfl⟩ ?_
          refine wpAnyIn_ready (rs := [17]) (by kernel_rfl) (by simp) ?_
          refine AllReadyIn.cons rfl (fun K hK => ?_) AllReadyIn.nil
          go_simp
          refine ⟨by first | exact trivial | exact fun _ _ => trivial, hK _ _ ?_⟩
          clear hK K
          refine wpAnyIn_take (i := 18) (v := undef) rfl rfl (by kernel_rfl) (by kernel_rfl) (by kernel_rfl) (fun _ _ _ h => h) ⟨Or.inr ⟨rfl, rfl⟩, fun _ => rfl⟩ ?_
          refine wpAnyIn_take (i := 19) (v := (.bool false)) rfl rfl (by kernel_rfl) (by kernel_rfl) (by kernel_rfl) (fun _ _ _ h => h) ⟨Or.inl ⟨rfl, fun w => by go_simp⟩, fun _ => rfl⟩ ?_
          refine wpAnyIn_done (by kernel_rfl) ?_ _
          gi_wp2
          go_roundw
          case rel => exact ⟨p + 1, k, by omega, by omega, hk, by go_num, HJ1.out, ⟨by rw [HD.out, HST.out, if_neg (by simp [HF.out])]⟩, HL1⟩
          case measure => simp [intOf]; omega
        · go_simp
          refine hK _ _ ?_
          clear hK K
          refine wpAnyIn_take (i := 3) (v := (.pointer (some (ad.add (p * 6))))) rfl rfl (by kernel_rfl) (by kernel_rfl) (by kernel_rfl) (fun _ _ _ h => h) ⟨Or.inl ⟨rfl, fun w => by go_simp⟩, fun _ => rfl⟩ ?_
          refine wpAnyIn_ready (rs := [0, 4]) (by kernel_rfl) (by simp) ?_
          refine AllReadyIn.cons rfl (fun K hK => ?_) (AllReadyIn.cons rfl (fun K hK => ?_) AllReadyIn.nil)
          · go_simp
            refine hK _ _ ?_
            clear hK K
            refine wpAnyIn_ready (rs := [4]) (by kernel_rfl) (by simp) ?_
            refine AllReadyIn.cons rfl (fun K hK => ?_) AllReadyIn.nil
            go_simp
            refine hK _ _ ?_
            clear hK K
            refine wpAnyIn_ready (rs := [5]) (by kernel_rfl) (by simp) ?_
            refine AllReadyIn.cons rfl (fun K hK => ?_) AllReadyIn.nil
            go_simp
            refine ⟨trivial, (callsIn_wide.2 (HP.out c _)).mono ?_⟩
            rintro e w1 ⟨rfl, hb1⟩
            rw [HIS.out]
            refine hK _ _ ?_
            clear hK K
            have hL1 : ∀ O, Lv O wr w1 := fun O => (Lv.drew O wr).trans (Lv.of_below hb1)
            have HJ1 := Aside0.mk (hJ _ _ _ hJs (hL1 _))
            have HL1 := Aside0.mk (HL.out.trans (hL1 _))
            have HB1 := Aside0.mk (below_step HBW.out (below_step ((Below.refl _ wr).drew) hb1))
            clear hb1 hL1 hJs
            refine wpAnyIn_take (i := 6) (v := (.bool false)) rfl rfl (by kernel_rfl) (by kernel_rfl) (by kernel_rfl) (fun _ _ _ h => h) ⟨Or.inl ⟨rfl, fun w => by go_simp⟩, fun _ => rfl⟩ ?_
            refine wpAnyIn_take (i := 7) (v := undef) rfl rfl (by kernel_rfl) (by kernel_rfl) (by kernel_rfl) (fun _ _ _ h => h) ⟨Or.inr ⟨rfl, rfl⟩, fun _ => rfl⟩ ?_
            refine wpAnyIn_take (i := 8) (v := undef) rfl rfl (by kernel_rfl) (by kernel_rfl) (by kernel_rfl) (fun _ _ _ h => h) ⟨Or.inr ⟨rfl, rfl⟩, fun _ => rfl⟩ ?_
            refine wpAnyIn_take (i := 9) (v := undef) rfl rfl (by kernel_rfl) (by kernel_rfl) (by kernel_rfl) (fun _ _ _ h => h) ⟨Or.inr ⟨rfl, rfl⟩, fun _ => rfl⟩ ?_
            refine wpAnyIn_take (i := 10) (v := undef) rfl rfl (by kernel_rfl) (by kernel_rfl) (by kernel_rfl) (fun _ _ _ h => h) ⟨Or.inr ⟨rfl, rfl⟩, fun _ => rfl⟩ ?_
            refine wpAnyIn_ready (rs := [11]) (by kernel_rfl) (by simp) ?_
            refine AllReadyIn.cons rfl (fun K hK => ?_) AllReadyIn.nil
            go_simp
            refine ⟨by first | exact trivial | exact fun _ _ => trivial, hK _ _ ?_⟩
            clear hK K
            refine wpAnyIn_take (i := 12) (v := undef) rfl rfl (by kernel_rfl) (by kernel_rfl) (by kernel_rfl) (fun _ _ _ h => h) ⟨Or.inr ⟨rfl, rfl⟩, fun _ => rfl⟩ ?_
            refine wpAnyIn_take (i := 13) (v := (.bool false)) rfl rfl (by kernel_rfl) (by kernel_rfl) (by kernel_rfl) (fun _ _ _ h => h) ⟨Or.inl ⟨rfl, fun w => by go_simp⟩, fun _ => rfl⟩ ?_
            refine wpAnyIn_take (i := 14) (v := (.bool false)) rfl rfl (by kernel_rfl) (by kernel_rfl) (by kernel_rfl) (fun _ _ _ h => h) ⟨Or.inl ⟨rfl, fun w => by go_simp⟩, fun _ => rfl⟩ ?_
            refine wpAnyIn_take (i := 15) (v := undef) rfl rfl (by kernel_rfl) (by kernel_rfl) (by kernel_rfl) (fun _ _ _ h => h) ⟨Or.inr ⟨rfl, rfl⟩, fun _ => rfl⟩ ?_
            refine wpAnyIn_take (i := 16) (v := undef) rfl rfl (by kernel_rfl) (by kernel_rfl) (by kernel_rfl) (fun _ _ _ h => h) ⟨Or.inr ⟨rfl, rfl⟩, fun _ => rfl⟩ ?_
            refine wpAnyIn_ready (rs := [17]) (by kernel_rfl) (by simp) ?_
            refine AllReadyIn.cons rfl (fun K hK => ?_) AllReadyIn.nil
            go_simp
            refine ⟨by first | exact trivial | exact fun _ _ => trivial, hK _ _ ?_⟩
            clear hK K
            refine wpAnyIn_take (i := 18) (v := undef) rfl rfl (by kernel_rfl) (by kernel_rfl) (by kernel_rfl) (fun _ _ _ h => h) ⟨Or.inr ⟨rfl, rfl⟩, fun _ => rfl⟩ ?_
            refine wpAnyIn_take (i := 19) (v := (.bool false)) rfl rfl (by kernel_rfl) (by kernel_rfl) (by kernel_rfl) (fun _ _ _ h => h) ⟨Or.inl ⟨rfl, fun w => by go_simp⟩, fun _ => rfl⟩ ?_
            refine wpAnyIn_done (by kernel_rfl) ?_ _
            gi_wp2
            go_roundw
            case rel => exact ⟨p + 1, k, by omega, by omega, hk, by go_num, HJ1.out, ⟨by rw [HD.out, HST.out, if_neg (by simp [HF.out])]⟩, HL1⟩
            case measure => simp [intOf]; omega
          · go_simp
            refine hK _ _ ?_
            clear hK K
            refine wpAnyIn_ready (rs := [0]) (by kernel_rfl) (by simp) ?_
            refine AllReadyIn.cons rfl (fun K hK => ?_) AllReadyIn.nil
            go_simp
            refine hK _ _ ?_
            clear hK K
            refine wpAnyIn_ready (rs := [5]) (by kernel_rfl) (by simp) ?_
            refine AllReadyIn.cons rfl (fun K hK => ?_) AllReadyIn.nil
            go_simp
            refine ⟨trivial, (callsIn_wide.2 (HP.out c _)).mono ?_⟩
            rintro e w1 ⟨rfl, hb1⟩
            rw [HIS.out]
            refine hK _ _ ?_
            clear hK K
            have hL1 : ∀ O, Lv O wr w1 := fun O => (Lv.drew O wr).trans (Lv.of_below hb1)
            have HJ1 := Aside0.mk (hJ _ _ _ hJs (hL1 _))
            have HL1 := Aside0.mk (HL.out.trans (hL1 _))
            have HB1 := Aside0.mk (below_step HBW.out (below_step ((Below.refl _ wr).drew) hb1))
            clear hb1 hL1 hJs
            refine wpAnyIn_take (i := 6) (v := (.bool false)) rfl rfl (by kernel_rfl) (by kernel_rfl) (by kernel_rfl) (fun _ _ _ h => h) ⟨Or.inl ⟨rfl, fun w => by go_simp⟩, fun _ => rfl⟩ ?_
            refine wpAnyIn_take (i := 7) (v := undef) rfl rfl (by kernel_rfl) (by kernel_rfl) (by kernel_rfl) (fun _ _ _ h => h) ⟨Or.inr ⟨rfl, rfl⟩, fun _ => rfl⟩ ?_
            refine wpAnyIn_take (i := 8) (v := undef) rfl rfl (by kernel_rfl) (by kernel_rfl) (by kernel_rfl) (fun _ _ _ h => h) ⟨Or.inr ⟨rfl, rfl⟩, fun _ => rfl⟩ ?_
            refine wpAnyIn_take (i := 9) (v := undef) rfl rfl (by kernel_rfl) (by kernel_rfl) (by kernel_rfl) (fun _ _ _ h => h) ⟨Or.inr ⟨rfl, rfl⟩, fun _ => rfl⟩ ?_
            refine wpAnyIn_take (i := 10) (v := undef) rfl rfl (by kernel_rfl) (by kernel_rfl) (by kernel_rfl) (fun _ _ _ h => h) ⟨Or.inr ⟨rfl, rfl⟩, fun _ => rfl⟩ ?_
            refine wpAnyIn_ready (rs := [11]) (by kernel_rfl) (by simp) ?_
            refine AllReadyIn.cons rfl (fun K hK => ?_) AllReadyIn.nil
            go_simp
            refine ⟨by first | exact trivial | exact fun _ _ => trivial, hK _ _ ?_⟩
            clear hK K
            refine wpAnyIn_take (i := 12) (v := undef) rfl rfl (by kernel_rfl) (by kernel_rfl) (by kernel_rfl) (fun _ _ _ h => h) ⟨Or.inr ⟨rfl, rfl⟩, fun _ => rfl⟩ ?_
            refine wpAnyIn_take (i := 13) (v := (.bool false)) rfl rfl (by kernel_rfl) (by kernel_rfl) (by kernel_rfl) (fun _ _ _ h => h) ⟨Or.inl ⟨rfl, fun w => by go_simp⟩, fun _ => rfl⟩ ?_
            refine wpAnyIn_take (i := 14) (v := (.bool false)) rfl rfl (by kernel_rfl) (by kernel_rfl) (by kernel_rfl) (fun _ _ _ h => h) ⟨Or.inl ⟨rfl, fun w => by go_simp⟩, fun _ => rfl⟩ ?_
            refine wpAnyIn_take (i := 15) (v := undef) rfl rfl (by kernel_rfl) (by kernel_rfl) (by kernel_rfl) (fun _ _ _ h => h) ⟨Or.inr ⟨rfl, rfl⟩, fun _ => rfl⟩ ?_
            refine wpAnyIn_take (i := 16) (v := undef) rfl rfl (by kernel_rfl) (by kernel_rfl) (by kernel_rfl) (fun _ _ _ h => h) ⟨Or.inr ⟨rfl, rfl⟩, fun _ => rfl⟩ ?_
            refine wpAnyIn_ready (rs := [17]) (by kernel_rfl) (by simp) ?_
            refine AllReadyIn.cons rfl (fun K hK => ?_) AllReadyIn.nil
            go_simp
            refine ⟨by first | exact trivial | exact fun _ _ => trivial, hK _ _ ?_⟩
            clear hK K
            refine wpAnyIn_take (i := 18) (v := undef) rfl rfl (by kernel_rfl) (by kernel_rfl) (by kernel_rfl) (fun _ _ _ h => h) ⟨Or.inr ⟨rfl, rfl⟩, fun _ => rfl⟩ ?_
            refine wpAnyIn_take (i := 19) (v := (.bool false)) rfl rfl (by kernel_rfl) (by kernel_rfl) (by kernel_rfl) (fun _ _ _ h => h) ⟨Or.inl ⟨rfl, fun w => by go_simp⟩, fun _ => rfl⟩ ?_
            refine wpAnyIn_done (by kernel_rfl) ?_ _
            gi_wp2
            go_roundw
            case rel => exact ⟨p + 1, k, by omega, by omega, hk, by go_num, HJ1.out, ⟨by rw [HD.out, HST.out, if_neg (by simp [HF.out])]⟩, HL1⟩
            case measure => simp [intOf]; omega
    · have y0 : decide ((p : Int) < (u : Int)) = false := by simp; omega
      have hend := HD.out.trans (endsFrom_end is l0 fr u p (by omega))
      have hkl : k = (endsS is l0 fr u).length := by
        have := congrArg List.length hend
        simp at this
        omega
      have HKL := Aside0.mk hkl
      clear hend hkl
      gi_wp2
      go_end0
      exact ⟨⟨_, rfl⟩, .inl (by rw [List.length_map, ← HKL.out]; exact hJs)⟩
end
section
open Go.Proofs.Ytkcmehijmgjgfaa.It Go.Shelf
attribute [local go_sem] Oper.semAt_some
theorem ends_calls (A0 : Option Addr) (n0 c0 : Nat) (fr u : Int) (fid : Nat) (w : World) :
    Calls Try.prog 65 #[.slice A0 n0 c0, .int .i64 fr, .int .i64 u, .func (.func fid) #[] #[]] w fun e w' =>
      e = .returned (.func (.func 95) #[] #[.pointer (some ⟨w.heap.size + 1, 0, none⟩), .pointer (some ⟨w.heap.size + 2, 0, none⟩), .pointer (some ⟨w.heap.size + 3, 0, none⟩), .pointer (some ⟨w.heap.size, 0, none⟩)]) ∧
      w' = (((w.alloc (.cells #[.slice A0 n0 c0] 22)).alloc (.cells #[.int .i64 fr] 3)).alloc (.cells #[.int .i64 u] 3)).alloc (.cells #[.func (.func fid) #[] #[]] 94) := by
  go_enter Try.func65, Try.ntmps65
  go_wp2
  go_ret
  exact ⟨rfl, rfl⟩
theorem infoInt3 : (Try.prog.info? 3).map (fun i => (i.zero, i.size, i.bytes)) = some (some (.int .i64 0), 1, 8) := by kernel_rfl
def encN (p : Nat) : Value := .int .i64 (p : Int)
structure ListI (w : World) (b0 D : Nat) (xs : List Nat) (k : Nat) (W : World) : Prop where
  coll : Coll b0 w.heap.size 55 3 (fun g => D + 2 ≤ g) encN (xs.take k) W
  below : Below w.heap.size w W
set_option maxRecDepth 100000 in
set_option maxHeartbeats 4000000 in
theorem list_calls (w : World) (b0 : Nat) (hb0 : b0 ≤ w.heap.size) (lb : Array Value) (xs : List Nat) (hpl : xs.length < 4398046511104)
    (hseq : ∀ W Oc, Below w.heap.size w W → (∀ i, i < w.heap.size → ¬ Oc i) → Seq 3 Try.prog 95 lb (xs.map encEnd) (fun _ => False) Oc W) :
    Calls Try.prog 64 #[.func (.func 95) #[] lb] w fun e w' => ∃ v, e = .returned v ∧ w'.ownsRow b0 3 1 v xs.length (xs.map encN) ∧ (∀ g, v.ownBlock = some g → w.heap.size ≤ g) ∧ Below w.heap.size w w' := by
  have HS := Aside0.mk hseq
  have HPL := Aside0.mk hpl
  clear hseq hpl
  refine (callsIn_wide (n := 7)).1 (callsIn_of_wp_marks Try.func64 rfl trivial ?_ rfl)
  refine wpIn_wide.2 ?_
  simp only [Try.ntmps64, List.size_toArray, List.length_cons, List.length_nil, Nat.reduceAdd, Nat.reduceSub, Array.replicate_succ, Array.replicate_zero, List.push_toArray, List.append_toArray, List.nil_append, List.cons_append]
  go_wp2
  refine wp_name ?_
  intro W0 hW0
  have hsz : W0.heap.size = w.heap.size + 1 := by rw [hW0]; simp
  have bo : Boxed W0 w.heap.size 55 (.slice none 0 0) := by rw [hW0]; exact boxed_at rfl
  have hB0 : Below w.heap.size w W0 := by rw [hW0]; exact below_alloc (Below.refl _ _) _
  have hsz1 : W0.heap.size ≤ w.heap.size + 1 := by omega
  have hsz2 : w.heap.size + 1 ≤ W0.heap.size := by omega
  clear hW0 hsz
  have hpl := HPL.out
  apply wp_ranged (m := 3) (gf := 95) (lb := lb) (by simp [go_sem]) (enters_of Try.func95 (by kernel_rfl) rfl)
    xs (fun p => #[.int .i64 (p : Int)]) (fun _ _ => rfl) (fun _ => False) (fun i => i = w.heap.size ∨ W0.heap.size + 2 ≤ i) ⟨by omega, by omega⟩ (fun _ h => h.elim)
    (HS.out W0 _ hB0 (fun i hi => by omega))
    (ListI w b0 W0.heap.size xs) (fun _ _ _ => False)
    ?hI ?hIx ?h0 _ ?assign ?body ?done ?stop
  case hI =>
    rintro k A B ⟨hC, hB⟩ hl
    exact ⟨hC.lv hl (by rintro (h | h | h) <;> omega) (fun g hg => by rintro (h | h | h) <;> omega), hB.trans (hl.below hB.size (fun i hi => by rintro (h | h | h) <;> omega))⟩
  case hIx => intro c k A B h _; exact h.elim
  case h0 => exact ⟨coll_nil bo, hB0⟩
  case assign =>
    intro l x W K _ hK
    gi_wp2
    exact hK
  case body =>
    rintro l k hk W hD ⟨rL, hL⟩ ⟨⟨v, bv, hrow, hOg⟩, hB⟩
    have hW2 : W0.heap.size + 1 < W.heap.size := (Array.getElem?_eq_some_iff.1 hL).1
    obtain ⟨p, hp⟩ : ∃ p, p = xs[k] := ⟨_, rfl⟩
    rw [← hp]
    have HP := Aside0.mk hp
    clear hp hD hL
    obtain ⟨ys, hys⟩ : ∃ ys, ys = xs.take k := ⟨_, rfl⟩
    rw [← hys] at hrow
    have hlk : ys.length = k := by rw [hys]; simp; omega
    have HYS := Aside0.mk hys
    have HLK := Aside0.mk hlk
    have gv := bv.cell
    clear hys hlk
    obtain ⟨i0, hi, hz0, hz1, hz2⟩ := info_parts infoInt3
    gi_wp2_with (gi_at_builtin; refine wpListIn_append_own_at _ rfl _ _ 55 rfl b0 3 i0 (.int .i64 0) 1 8 Try.underlying55 hi hz0 hz1 hz2 rfl (by decide) _ _ _ rfl (hrow.alloc _) ⟨W.heap.size, 0, none⟩ 1 1 [.int .i64 (p : Int)] rfl rfl (cell_one_new _ _ _) (by simp [Value.oneCell']) (by rw [HLK.out]; simp only [maxLen]; omega) (by rw [HLK.out]; omega) (by simp; omega) ?_; intro v' w1 hown' hgrow _ hat; obtain ⟨g', cap', rfl⟩ := ownsRow_succ hown'; have HAP := Aside0.mk (coll_appended (enc := encN) (x := p) (Ob := fun i => i = w.heap.size ∨ W0.heap.size + 2 ≤ i) bv (by decide) hrow hOg (fun g hg => by omega) (by omega) hb0 hown' hgrow hat (fun g hg => by omega) (by omega)); have HG := Aside0.mk (bv.not_row (by decide) hrow); have bv1 := (bv.alloc _).kept hgrow HG.out; have hc1 := bv1.cell; have hf1 := bv1.frozen; clear hown' hgrow hat)
    refine ⟨HAP.out.2.1.mono (fun i _ h => by omega), ⟨?_, hB.trans (HAP.out.2.1.below (by omega) (fun i hi => by omega))⟩⟩
    have h := HAP.out.1
    rw [List.take_succ_eq_append_getElem hk, ← HP.out]
    obtain rfl := HYS.out
    exact h
  case done =>
    rintro W ⟨⟨v, bv, hrow, hOg⟩, hB⟩ hD
    rw [List.take_length] at hrow
    have hDl : W0.heap.size < W.heap.size := (Array.getElem?_eq_some_iff.1 hD).1
    have gv := bv.cell
    obtain ⟨Av, cv, hv⟩ := own_slice hrow
    subst hv
    go_wp2
    refine ⟨by simp, .inl ⟨W0.heap.size, _, rfl, run_takeDeferred hD, ?_⟩⟩
    have hL4 := Lv.putObj (O := fun i => i = W0.heap.size) (A := W) (.deferred none) rfl
    refine ⟨.slice Av xs.length cv, by simp [results, Try.f64, go_sem], _, rfl, ?_, ?_, ?_⟩
    · exact own_lv hL4 hrow (fun g hg => by have := hOg g hg; omega)
    · intro g hg
      have := hOg g hg
      omega
    · exact hB.trans (hL4.below (by omega) (fun i hi => by omega))
  case stop => intro c k W _ h _; exact h.elim
/-- Both ends of a place: soft ones and the last, and emergency ones. -/
def fill_Ends.f (l : List S25) (a : Int) : Option (List Int × List Int × Int) :=
  if l.length < 1099511627776 then
    if mayS l a = true then some ((endsS (fun c => c.f4) l a.toNat (lastS l a.toNat).1).map (fun p : Nat => (p : Int)) ++ [((lastS l a.toNat).1 : Int)], (endsS (fun c => c.f5) l a.toNat (lastS l a.toNat).1).map (fun p : Nat => (p : Int)), 0)
    else some ([], [], 2)
  else none
theorem endsS_length (is : S25 → Bool) (l : List S25) (fr u : Nat) : (endsS is l fr u).length ≤ u := by
  unfold endsS endsFrom
  have := List.length_filter_le (endB is l fr) (List.range' (fr + 1) (u - (fr + 1)))
  rw [List.length_range'] at this
  omega
theorem soft_calls14 (c : S25) (W : World) : Calls Try.prog 66 #[encC c] W fun e W' => e = .returned (.bool c.f4) ∧ Below W.heap.size W W' := by
  obtain ⟨a0, a1, a2, a3, a4, a5⟩ := c
  exact fill_soft.calls a0 a1 a2 a3 a4 a5 a4 W rfl
theorem emerg_calls14 (c : S25) (W : World) : Calls Try.prog 67 #[encC c] W fun e W' => e = .returned (.bool c.f5) ∧ Below W.heap.size W W' := by
  obtain ⟨a0, a1, a2, a3, a4, a5⟩ := c
  exact fill_emergency.calls a0 a1 a2 a3 a4 a5 a5 W rfl
/-- The list of the ends of a kind, behind the call of the iterator's maker. -/
theorem endlist_calls (w w3 : World) (A0 : Option Addr) (c0 : Nat) (l0 : List S25) (hC0 : Kd.C k25 w A0 l0.length l0) (hc0 : l0.length ≤ c0) (hlen : l0.length < 1099511627776) (hb : Below w.heap.size w w3) (fr u : Nat) (hfr : fr ≤ l0.length) (hu : u ≤ l0.length)
    (fid : Nat) (is : S25 → Bool) (eg : ∀ args w, (callFunc fid args).run Try.prog w = .ok (.enter fid args) w) (hp : ∀ c W, Calls Try.prog fid #[encC c] W fun e W' => e = .returned (.bool (is c)) ∧ Below W.heap.size W W') :
    Calls Try.prog 64 #[.func (.func 95) #[] #[.pointer (some ⟨w3.heap.size + 1, 0, none⟩), .pointer (some ⟨w3.heap.size + 2, 0, none⟩), .pointer (some ⟨w3.heap.size + 3, 0, none⟩), .pointer (some ⟨w3.heap.size, 0, none⟩)]]
      ((((w3.alloc (.cells #[.slice A0 l0.length c0] 22)).alloc (.cells #[.int .i64 (fr : Int)] 3)).alloc (.cells #[.int .i64 (u : Int)] 3)).alloc (.cells #[.func (.func fid) #[] #[]] 94))
      fun e w' => ∃ v, e = .returned v ∧ w'.ownsRow w.heap.size 3 1 v (endsS is l0 fr u).length ((endsS is l0 fr u).map encN) ∧ (∀ g, v.ownBlock = some g → w3.heap.size ≤ g) ∧ Below w3.heap.size w3 w' := by
  obtain ⟨W2, hW2⟩ : ∃ W2, W2 = (((w3.alloc (.cells #[.slice A0 l0.length c0] 22)).alloc (.cells #[.int .i64 (fr : Int)] 3)).alloc (.cells #[.int .i64 (u : Int)] 3)).alloc (.cells #[.func (.func fid) #[] #[]] 94) := ⟨_, rfl⟩
  have hsz : W2.heap.size = w3.heap.size + 4 := by rw [hW2]; simp
  have bl : Boxed W2 w3.heap.size 22 (.slice A0 l0.length c0) := by rw [hW2]; exact (((boxed_at rfl).alloc _).alloc _).alloc _
  have bf : Boxed W2 (w3.heap.size + 1) 3 (.int .i64 (fr : Int)) := by rw [hW2]; exact ((boxed_at (by simp)).alloc _).alloc _
  have bt : Boxed W2 (w3.heap.size + 2) 3 (.int .i64 (u : Int)) := by rw [hW2]; exact (boxed_at (by simp)).alloc _
  have bs : Boxed W2 (w3.heap.size + 3) 94 (.func (.func fid) #[] #[]) := by rw [hW2]; exact boxed_at (by simp)
  have hB3 : Below w3.heap.size w3 W2 := by rw [hW2]; exact below_alloc (below_alloc (below_alloc (below_alloc (Below.refl _ _) _) _) _) _
  have hbs := hb.size
  rw [← hW2]
  have hlt := endsS_length is l0 fr u
  refine (list_calls W2 w.heap.size (by omega) _ (endsS is l0 fr u) (by omega) ?_).mono ?_
  · intro W' Oc h hO
    have q := fun {b t v} (hx : Boxed W2 b t v) => boxed_lv (Lv.of_below (O := fun _ => False) h) hx (fun h => h)
    exact ends_seq 2 w W' (below_step (below_step hb hB3) h) A0 c0 l0 fr u fid is hC0 hc0 hu _ _ _ _ (q bf) (q bt) (q bs) (q bl) Oc (hO _ (by omega)) (hO _ (by omega)) (hO _ (by omega)) (hO _ (by omega)) (fun i hi => hO i (by omega)) eg hp (by omega) hfr
  · rintro e w' ⟨v, rfl, h1, h2, h3⟩
    exact ⟨v, rfl, h1, fun g hg => by have := h2 g hg; omega, below_step hB3 h3⟩
end
section
open Go.Proofs.Ytkcmehijmgjgfaa.It Go.Shelf
theorem encN_ints (xs : List Nat) : xs.map encN = encs (Value.int .i64) (xs.map fun p : Nat => (p : Int)) := by
  unfold encs; rw [List.map_map]; rfl
set_option maxRecDepth 100000 in
set_option maxHeartbeats 4000000 in
theorem fill_Ends.calls (A0 : Option Addr) (c0 : Nat) (l0 : List S25) (a1 : Int) (r1 r2 : List Int) (r3 : Int) (w : World) (hr0 : Kd.C k25 w A0 l0.length l0) (hc0 : l0.length ≤ c0) (h : fill_Ends.f l0 a1 = some (r1, r2, r3)) :
    Calls Try.prog 34 #[.slice A0 l0.length c0, .int .i64 a1] w fun e w' => ∃ v0_ v1_ : Value, e = .returned (.tuple #[v0_, v1_, .int .i64 r3]) ∧ Kd.R (Kd.int .i64) 3 w' w.heap.size (fun k_ => some k_ ≠ (v1_ : Value).ownBlock) v0_ r1 ∧ Kd.R (Kd.int .i64) 3 w' w.heap.size (fun k_ => some k_ ≠ (v0_ : Value).ownBlock) v1_ r2 ∧ Below w.heap.size w w' := by
  unfold fill_Ends.f at h
  by_cases hlen : l0.length < 1099511627776
  case neg => rw [if_neg hlen] at h; cases h
  rw [if_pos hlen] at h
  have HC0 := Aside0.mk hr0
  clear hr0
  go_enter Try.func34, Try.ntmps34
  go_wp2_with fail
  refine (fill_may.calls (l0.length + 1) A0 c0 l0 a1 (mayS l0 a1) _ HC0.out hc0 (may_S l0 a1 (by omega))).mono ?_
  rintro e w1 ⟨rfl, hb1⟩
  have HB1 := Aside0.mk hb1
  clear hb1
  by_cases hm : mayS l0 a1 = true
  · rw [if_pos hm] at h
    rw [hm]
    have ha : 0 ≤ a1 ∧ a1 ≤ (l0.length : Int) := by
      unfold mayS at hm
      rw [Bool.and_eq_true] at hm
      simpa using hm.2
    obtain ⟨n, rfl⟩ : ∃ n : Nat, a1 = n := ⟨a1.toNat, by omega⟩
    rw [Int.toNat_natCast] at h
    have hn : n ≤ l0.length := by omega
    obtain ⟨u, hu⟩ : ∃ u, u = (lastS l0 n).1 := ⟨_, rfl⟩
    obtain ⟨fo, hfo⟩ : ∃ fo, fo = (lastS l0 n).2 := ⟨_, rfl⟩
    have hle := (lastS_le l0 n hn).2
    have hlast := last_S l0 n hn (by omega)
    rw [← hu] at h hle hlast
    rw [← hfo] at hlast
    have HR := Aside0.mk (Option.some.inj h)
    have HLA := Aside0.mk hlast
    obtain ⟨xs, hxs⟩ : ∃ xs, xs = endsS (fun c => c.f4) l0 n u := ⟨_, rfl⟩
    obtain ⟨ys, hys⟩ : ∃ ys, ys = endsS (fun c => c.f5) l0 n u := ⟨_, rfl⟩
    rw [← hxs, ← hys] at HR
    have hxl : xs.length ≤ u := by rw [hxs]; exact endsS_length _ _ _ _
    have P1 := Aside0.mk (fun (W : World) (hB : Below w.heap.size w W) => endlist_calls w W A0 c0 l0 HC0.out hc0 hlen hB n u hn hle 66 (fun c => c.f4) (enters_of Try.func66 (by kernel_rfl) rfl) soft_calls14)
    have P2 := Aside0.mk (fun (W : World) (hB : Below w.heap.size w W) => endlist_calls w W A0 c0 l0 HC0.out hc0 hlen hB n u hn hle 67 (fun c => c.f5) (enters_of Try.func67 (by kernel_rfl) rfl) emerg_calls14)
    rw [← hxs] at P1
    rw [← hys] at P2
    clear h hm ha hlast hxs hys hu hfo
    go_wp2_with fail
    refine (fill_last.calls (l0.length + 2) A0 c0 l0 (n : Int) (u : Int) fo _ (Kd.C_below HC0.out HB1.out) hc0 HLA.out).mono ?_
    rintro e w2 ⟨rfl, hd⟩
    obtain ⟨n1, rfl⟩ := hd.out
    have HB2 := Aside0.mk (pw_below_drewN (n := n1) HB1.out)
    clear hd
    go_wp2_with fail
    refine (ends_calls A0 l0.length c0 (n : Int) (u : Int) 66 _).mono ?_
    rintro e w3 ⟨rfl, hw3⟩
    subst hw3
    go_wp2_with fail
    refine (P1.out _ HB2.out).mono ?_
    rintro e w4 ⟨v1, rfl, hrow1, hv1, hb4⟩
    have HB4 := Aside0.mk (below_step HB2.out hb4)
    have HRW := Aside0.mk hrow1
    clear hrow1 hv1 hb4
    go_wp2_with (at_builtin; refine Kd.R_append (Kd.int .i64) (w0 := w) w.heap.size rfl (.tmp 23) (.tmp 25) 55 3 (.int .i64 0) 8 rfl Try.underlying55 infoInt3 rfl (by decide) (by decide) v1 (xs.map fun p : Nat => (p : Int)) (u : Int) [.int .i64 (u : Int)] (fun _ => True) (fun _ => False) rfl rfl rfl (fun _ hk => hk.elim) (fun _ _ => trivial) (Kd.R_of_own (by rw [List.length_map, ← encN_ints]; exact HRW.out) (fun _ _ => trivial)) HB4.out (below_size HB4.out) (by rw [List.length_map]; omega) ?_; intro v2 w5 hR5 hB5 _ _; have HR5 := Aside0.mk hR5; have HB5 := Aside0.mk hB5; clear hR5 hB5)
    refine (ends_calls A0 l0.length c0 (n : Int) (u : Int) 67 _).mono ?_
    rintro e w6 ⟨rfl, hw6⟩
    subst hw6
    go_wp2_with fail
    refine (P2.out _ HB5.out).mono ?_
    rintro e w7 ⟨v3, rfl, hrow3, hv3, hb7⟩
    have HB7 := Aside0.mk hb7
    have HRW3 := Aside0.mk hrow3
    have HV3 := Aside0.mk hv3
    clear hrow3 hv3 hb7
    go_wp2
    go_ret3
    have hbd := Kd.R_bound HR5.out
    obtain ⟨rfl, hr2⟩ := Prod.mk.inj HR.out
    obtain ⟨rfl, rfl⟩ := Prod.mk.inj hr2
    refine ⟨v2, v3, rfl, ?_, ?_, below_step HB5.out HB7.out⟩
    · refine Kd.R_mono (Kd.R_below hbd HB7.out) (fun k hk he => ?_)
      have := HV3.out k he.symm
      omega
    · refine Kd.R_of_own (by rw [List.length_map, ← encN_ints]; exact HRW3.out) (fun k hk he => ?_)
      have h1 := HV3.out k hk
      have h2 := hbd.1 k he.symm
      omega
  · rw [if_neg hm] at h
    have HR := Aside0.mk (Option.some.inj h)
    rw [Bool.not_eq_true] at hm
    rw [hm]
    clear h hm
    go_wp2
    go_ret3
    obtain ⟨rfl, hr2⟩ := Prod.mk.inj HR.out
    obtain ⟨rfl, rfl⟩ := Prod.mk.inj hr2
    exact ⟨.slice none 0 0, .slice none 0 0, rfl, Kd.R_nil _ _ _ _ _, Kd.R_nil _ _ _ _ _, HB1.out⟩
end

end Go.Proofs.Ytkcmehijmgjgfaa.MFillForced
