-- Written by a program of this session for this claim.
import Derived.Test.YtkcmehijmgjgfaaMFillForcedx0
import Derived.Test.YtkcmehijmgjgfaaMFillForcedx4
import Derived.Test.YtkcmehijmgjgfaaMFillForcedx5
import Derived.Test.YtkcmehijmgjgfaaMFillForcedx6
namespace Go.Proofs.Ytkcmehijmgjgfaa.MFillForced
open Go.RowKit Go.Proofs.YtkcmehijmgjgfaaW.PrintWords Go.Proofs.YtkcmehijmgjgfaaW.PrintLast Go.Proofs.YtkcmehijmgjgfaaW.PrintMore
attribute [local go_sem] max2_int min2_int max_two min_two max_three min_three max_four min_four   -- for this text's walks alone
set_option linter.unusedVariables false
set_option linter.unusedSimpArgs false

-- NOT PRINTED: function 69 (fill_reach)

attribute [local irreducible] Go.wpStill Go.wpQuiet
/-! ### fill_One: function 36 -/
-- needs func fill.Ends trim.Fits fill.last
section
open Go.Proofs.Ytkcmehijmgjgfaa.It Go.Shelf
/-- The last of some ends that fit, and ahead of which all do; the first one, and false, if that does not fit; an error. -/
def reachO (fit : Int → Option (Bool × Int)) : Nat → Int → List Int → Option (Int × Bool × Int)
  | _, p, [] => some (p, true, 0)
  | i, p, q :: l => (fit q).bind fun x => if x.2 = 0 then (if x.1 = true then reachO fit (i + 1) q l else if i = 0 then some (q, false, 0) else some (p, true, 0)) else some (0, false, x.2)
set_option maxRecDepth 100000 in
set_option maxHeartbeats 4000000 in
theorem reach_calls (A0 : Option Addr) (c0 : Nat) (l0 : List Int) (fid : Nat) (cap : Array Value) (fit : Int → Option (Bool × Int)) (r1 : Int) (r2 : Bool) (r3 : Int) (w : World) (hr0 : Kd.C (Kd.int .i64) w A0 l0.length l0) (hc0 : l0.length ≤ c0)
    (eg : ∀ args w, (callFunc fid args).run Try.prog w = .ok (.enter fid args) w)
    (hp : ∀ q x W, q ∈ l0 → fit q = some x → Below w.heap.size w W → Calls Try.prog fid (#[.int .i64 q] ++ cap) W fun e W' => e = .returned (.tuple #[.bool x.1, .int .i64 x.2]) ∧ Below W.heap.size W W')
    (h : reachO fit 0 0 l0 = some (r1, r2, r3)) (hlen : l0.length < 4611686018427387904) :
    Calls Try.prog 69 #[.slice A0 l0.length c0, .func (.func fid) #[] cap] w fun e w' => e = .returned (.tuple #[.int .i64 r1, .bool r2, .int .i64 r3]) ∧ Below w.heap.size w w' := by
  have HC0 := Aside0.mk hr0
  have HP := Aside0.mk hp
  have H := Aside0.mk h
  clear hr0 hp h
  go_enter Try.func69, Try.ntmps69
  go_wp2
  go_loopw [4, 13] (fun pv iv wr => ∃ (i : Nat) (p : Int), i ≤ l0.length ∧ iv = .int .i64 (i : Int) ∧ pv = .int .i64 p ∧ Aside0 (reachO fit i p (l0.drop i) = some (r1, r2, r3)) ∧ Aside0 (Below w.heap.size w wr))
    (fun _ iv _ => l0.length - (intOf iv).toNat)
  case atStart => exact ⟨0, 0, by omega, rfl, rfl, H, ⟨Below.refl _ _⟩⟩
  case round =>
    obtain ⟨i, p, hi, rfl, rfl, HR, HB⟩ := hrel
    clear H
    by_cases hlt : i < l0.length
    · obtain ⟨ad, ea, hx⟩ := Kd.at_int HC0.out (i : Int) (by omega) (by omega)
      cases ea
      rw [Int.toNat_natCast] at hx
      replace hx := pw_cell_below HB.out hx
      have hrd : rd l0 (i : Int) = l0[i] := by unfold rd; rw [Int.toNat_natCast, List.getD_eq_getElem?_getD, List.getElem?_eq_getElem hlt]; rfl
      have hd := HR.out
      rw [List.drop_eq_getElem_cons hlt] at hd
      have hmem : l0[i] ∈ l0 := List.getElem_mem hlt
      rw [hrd] at hx
      obtain ⟨q, hq⟩ : ∃ q, q = l0[i] := ⟨_, rfl⟩
      rw [← hq] at hx hd hmem
      rw [reachO] at hd
      obtain ⟨⟨g, e⟩, hf, hd⟩ := Option.bind_eq_some_iff.1 hd
      have HCALL := Aside0.mk (fun W hW => HP.out q (g, e) W hmem hf hW)
      have HD := Aside0.mk hd
      have y1 : decide ((i : Int) < (l0.length : Int)) = true := by simp; omega
      clear hq hmem hf hd hrd HR
      go_wp2_with fail
      refine (HCALL.out _ HB.out).mono ?_
      rintro e1 w1 ⟨rfl, hb1⟩
      have HB1 := Aside0.mk (below_step HB.out hb1)
      clear hb1 hx HB
      have hd := HD.out
      by_cases he : e = 0
      · have z1 : (e != 0) = false := by rw [bne_eq_false_iff_eq]; exact he
        rw [if_pos he] at hd
        clear he
        cases g with
        | true =>
          rw [if_pos rfl] at hd
          have HN := Aside0.mk hd
          clear hd HD HCALL
          go_wp2
          go_roundw
          case rel => exact ⟨i + 1, q, by omega, by go_num, rfl, HN, HB1⟩
          case measure => simp [intOf]; omega
        | false =>
          rw [if_neg (by simp)] at hd
          by_cases hi0 : i = 0
          · subst hi0
            rw [if_pos rfl] at hd
            have HN := Aside0.mk (Option.some.inj hd)
            clear hd HD HCALL
            go_wp2
            go_ret3
            obtain ⟨rfl, h2⟩ := Prod.mk.inj HN.out
            obtain ⟨rfl, rfl⟩ := Prod.mk.inj h2
            exact ⟨rfl, HB1.out⟩
          · rw [if_neg hi0] at hd
            have HN := Aside0.mk (Option.some.inj hd)
            have z2 : ((i : Int) == 0) = false := by rw [beq_eq_false_iff_ne]; omega
            clear hd HD HCALL hi0
            go_wp2
            go_ret3
            obtain ⟨rfl, h2⟩ := Prod.mk.inj HN.out
            obtain ⟨rfl, rfl⟩ := Prod.mk.inj h2
            exact ⟨rfl, HB1.out⟩
      · have z1 : (e != 0) = true := by rw [bne_iff_ne]; exact he
        rw [if_neg he] at hd
        have HN := Aside0.mk (Option.some.inj hd)
        clear hd HD HCALL he
        go_wp2
        go_ret3
        obtain ⟨rfl, h2⟩ := Prod.mk.inj HN.out
        obtain ⟨rfl, rfl⟩ := Prod.mk.inj h2
        exact ⟨rfl, HB1.out⟩
    · obtain rfl : i = l0.length := by omega
      have hd := HR.out
      rw [List.drop_length, reachO] at hd
      have HN := Aside0.mk (Option.some.inj hd)
      have y1 : decide ((l0.length : Int) < (l0.length : Int)) = false := by simp
      clear hd HR
      go_wp2
      go_ret3
      obtain ⟨rfl, h2⟩ := Prod.mk.inj HN.out
      obtain ⟨rfl, rfl⟩ := Prod.mk.inj h2
      exact ⟨rfl, HB.out⟩
/-- Does an end fit? -/
def fitO (l : List S25) (fr wid st : Int) (q : Int) : Option (Bool × Int) := (trim_Fits.f ((l.take q.toNat).drop fr.toNat) st).bind fun r => some (decide (r.1 ≤ wid), r.2)
set_option maxRecDepth 100000 in
set_option maxHeartbeats 4000000 in
theorem fits_calls (w0 W : World) (A0 : Option Addr) (c0 : Nat) (l0 : List S25) (hC0 : Kd.C k25 w0 A0 l0.length l0) (hc0 : l0.length ≤ c0) (hb : Below w0.heap.size w0 W) (bl bf br : Nat) (fr wid st : Int)
    (hl : Boxed W bl 22 (.slice A0 l0.length c0)) (hf : Boxed W bf 3 (.int .i64 fr)) (hr : W.heap[br]? = some (.cells #[.int .i64 wid, .int .i64 st] 45 (0, 0)))
    (x0 x1 : Nat) (hfr : fr = (x0 : Int)) (h01 : x0 ≤ x1) (h1 : x1 ≤ l0.length) (g : Bool) (e : Int) (h : fitO l0 fr wid st (x1 : Int) = some (g, e)) (hlen : l0.length < 4611686018427387904) :
    Calls Try.prog 68 #[.int .i64 (x1 : Int), .pointer (some ⟨bl, 0, none⟩), .pointer (some ⟨bf, 0, none⟩), .pointer (some ⟨br, 0, none⟩)] W fun e' W' => e' = .returned (.tuple #[.bool g, .int .i64 e]) ∧ Below W.heap.size W W' := by
  subst hfr
  unfold fitO at h
  rw [Int.toNat_natCast, Int.toNat_natCast] at h
  obtain ⟨⟨n, e2⟩, hF, hg⟩ := Option.bind_eq_some_iff.1 h
  obtain ⟨rfl, rfl⟩ := Prod.mk.inj (Option.some.inj hg)
  dsimp only at hg ⊢
  have hlc := hl.cell
  have hfc := hf.cell
  have hrc0 : W.cell? ⟨br, 0, none⟩ = some (.int .i64 wid) := by rw [heap_cellAt hr]; rfl
  have hrc1 : W.cell? ⟨br, 1, none⟩ = some (.int .i64 st) := by rw [heap_cellAt hr]; rfl
  obtain ⟨i0, hi0, _, hsz, _⟩ := info_parts info25
  have hcut := cut_mid (P := Try.prog) 22 25 .i64 .i64 Try.underlying22 hi0 6 hsz A0 l0.length c0 (x0 : Int) (x1 : Int) (by omega) (by omega) (by omega) hc0
  rw [Int.toNat_natCast, Int.toNat_natCast] at hcut
  obtain ⟨A1, hA1⟩ : ∃ A1, A1 = (if c0 = x0 then A0 else (A0 : Option Addr).map (·.add (x0 * 6))) := ⟨_, rfl⟩
  obtain ⟨ys, hys⟩ : ∃ ys, ys = (l0.take x1).drop x0 := ⟨_, rfl⟩
  have hyl : ys.length = x1 - x0 := by rw [hys, List.length_drop, List.length_take]; omega
  rw [← hA1, ← hyl] at hcut
  have hfit : ∀ W', Below w0.heap.size w0 W' → Calls Try.prog 17 #[.slice A1 ys.length (c0 - x0), .int .i64 st] W' fun e w' => e = .returned (.tuple #[.int .i64 n, .int .i64 e2]) ∧ Below W'.heap.size W' w' := fun W' hW' => by
    have hr := Kd.C_mid (lo := x0) (hi := x1) (c := c0) (Kd.C_below hC0 hW') (by omega) (by omega) hc0
    rw [show k25.sz = 6 from rfl, ← hA1, ← hys] at hr
    exact trim_Fits.calls A1 (c0 - x0) ys st n e2 W' hr (by omega) (by rw [hys]; exact hF)
  have HF := Aside0.mk hfit
  have HB := Aside0.mk hb
  have HL := Aside0.mk hr
  have hfo : Try.prog.follows .mixedOrders = true := by kernel_rfl
  clear hfit hb h hF hg hA1 hys hyl hi0 hsz hC0 hr
  go_enter Try.func68, Try.ntmps68
  go_wp2_with fail
  go_region_with (refine (HF.out _ (by (first | exact pw_below_drew HB.out | exact pw_below_drewN (n := 1) HB.out))).mono ?_; rintro e1 w1 ⟨rfl, hb1⟩; have HB1 := Aside0.mk (show Below W.heap.size W w1 from below_step (Below.refl _ W).drew hb1); have hrc2 := (below_step (Below.refl _ W).drew hb1).cell (World.block_lt_of_cell? _ _ hrc0); rw [hrc0] at hrc2; clear hb1)
  all_goals (
    go_wp2
    go_ret2
    exact ⟨rfl, HB1.out⟩)
end
section
open Go.Proofs.Ytkcmehijmgjgfaa.It Go.Shelf
def someS (l : List S25) (n : Nat) : List Int := (endsS (fun c => c.f4) l n (lastS l n).1).map (fun p : Nat => (p : Int)) ++ [((lastS l n).1 : Int)]
def otherS (l : List S25) (n : Nat) : List Int := (endsS (fun c => c.f5) l n (lastS l n).1).map (fun p : Nat => (p : Int))
/-- The line from a place on. -/
def fill_One.f (l : List S25) (a wid st : Int) : Option (Int × Int × Bool × Int) :=
  if l.length < 1099511627776 then
    if mayS l a = true ∧ 0 ≤ wid then
      (reachO (fitO l a wid st) 0 0 (someS l a.toNat)).bind fun x =>
        (if x.2.2 = 0 ∧ x.2.1 = false ∧ 0 < ((otherS l a.toNat).filter fun p => decide (p < x.1)).length then (reachO (fitO l a wid st) 0 0 ((otherS l a.toNat).filter fun p => decide (p < x.1))).map fun y => (y.1, y.2.2) else some (x.1, x.2.2)).bind fun z =>
          if z.2 = 0 then some (a, z.1, (lastS l a.toNat).2 && decide (z.1 = ((lastS l a.toNat).1 : Int)), 0) else some (0, 0, false, z.2)
    else some (0, 0, false, 2)
  else none
theorem endsFrom_mem (is : S25 → Bool) (l : List S25) (fr u p q : Nat) (h : q ∈ endsFrom is l fr u p) : p ≤ q ∧ q < u := by
  unfold endsFrom at h
  have := (List.mem_filter.1 h).1
  rw [List.mem_range'_1] at this
  omega
theorem otherS_mem (l : List S25) (n : Nat) (hn : n ≤ l.length) (q : Int) (h : q ∈ otherS l n) : ∃ p : Nat, q = p ∧ n ≤ p ∧ p ≤ l.length := by
  unfold otherS at h
  obtain ⟨p, hp, rfl⟩ := List.mem_map.1 h
  have := endsFrom_mem _ _ _ _ _ _ hp
  have := (lastS_le l n hn).2
  exact ⟨p, rfl, by omega, by omega⟩
theorem someS_mem (l : List S25) (n : Nat) (hn : n ≤ l.length) (q : Int) (h : q ∈ someS l n) : ∃ p : Nat, q = p ∧ n ≤ p ∧ p ≤ l.length := by
  unfold someS at h
  have hle := lastS_le l n hn
  rcases List.mem_append.1 h with h | h
  · obtain ⟨p, hp, rfl⟩ := List.mem_map.1 h
    have := endsFrom_mem _ _ _ _ _ _ hp
    exact ⟨p, rfl, by omega, by omega⟩
  · rw [List.mem_singleton.1 h]
    exact ⟨_, rfl, by omega, by omega⟩
theorem fill_Ends_f (l : List S25) (a : Int) (hl : l.length < 1099511627776) : fill_Ends.f l a = some (if mayS l a = true then (someS l a.toNat, otherS l a.toNat, 0) else ([], [], 2)) := by
  unfold fill_Ends.f someS otherS
  rw [if_pos hl]
  split <;> rfl
theorem take_filter_succ (l : List Int) (f : Int → Bool) (k : Nat) (h : k < l.length) : (l.take (k + 1)).filter f = (l.take k).filter f ++ (if f l[k] = true then [l[k]] else []) := by
  rw [List.take_succ_eq_append_getElem h, List.filter_append]
  congr 1
  rw [List.filter_cons]
  split <;> rfl
/-- What the boxes of a line's walk hold. -/
structure OneB (w W : World) (A0 : Option Addr) (c0 : Nat) (l0 : List S25) (a wid st : Int) : Prop where
  bl : Boxed W w.heap.size 22 (.slice A0 l0.length c0)
  bf : Boxed W (w.heap.size + 1) 3 (.int .i64 a)
  br : W.heap[w.heap.size + 2]? = some (.cells #[.int .i64 wid, .int .i64 st] 45 (0, 0))
  bo : W.heap[w.heap.size + 3]? = some (.cells #[.int .i64 0, .int .i64 0, .bool false] 54 (0, 0))
  below : Below w.heap.size w W
theorem OneB.step {w W W' : World} {A0 : Option Addr} {c0 : Nat} {l0 : List S25} {a wid st : Int} (h : OneB w W A0 c0 l0 a wid st) (hb : Below W.heap.size W W') : OneB w W' A0 c0 l0 a wid st := by
  have q := Lv.of_below (O := fun _ => False) hb
  exact ⟨boxed_lv q h.bl (fun h => h), boxed_lv q h.bf (fun h => h), q.heap h.br (fun h => h), q.heap h.bo (fun h => h), below_step h.below hb⟩
theorem OneB.start (w : World) (A0 : Option Addr) (c0 : Nat) (l0 : List S25) (a wid st : Int) :
    OneB w ((((w.alloc (.cells #[.slice A0 l0.length c0] 22)).alloc (.cells #[.int .i64 a] 3)).alloc (.cells #[.int .i64 wid, .int .i64 st] 45)).alloc (.cells #[.int .i64 0, .int .i64 0, .bool false] 54)) A0 c0 l0 a wid st := by
  refine ⟨(((boxed_at rfl).alloc _).alloc _).alloc _, ((boxed_at (by simp)).alloc _).alloc _, ?_, ?_, below_alloc (below_alloc (below_alloc (below_alloc (Below.refl _ _) _) _) _) _⟩
  · rw [heap_alloc_get, if_neg (by simp), heap_alloc_get, if_pos (by simp)]
  · rw [heap_alloc_get, if_pos (by simp)]
theorem one_out {w W : World} {A0 : Option Addr} {c0 : Nat} {l0 : List S25} {a wid st : Int} (h : OneB w W A0 c0 l0 a wid st) (x y : Int) (z : Bool) :
    (((W.setCell ⟨w.heap.size + 1 + 1 + 1, 0, none⟩ (.int .i64 x)).setCell ⟨w.heap.size + 1 + 1 + 1, 1, none⟩ (.int .i64 y)).setCell ⟨w.heap.size + 1 + 1 + 1, 2, none⟩ (.bool z)).heap[w.heap.size + 1 + 1 + 1]? = some (.cells #[.int .i64 x, .int .i64 y, .bool z] 54 (0, 0)) ∧
    Below w.heap.size w (((W.setCell ⟨w.heap.size + 1 + 1 + 1, 0, none⟩ (.int .i64 x)).setCell ⟨w.heap.size + 1 + 1 + 1, 1, none⟩ (.int .i64 y)).setCell ⟨w.heap.size + 1 + 1 + 1, 2, none⟩ (.bool z)) := by
  refine ⟨?_, ((h.below.setCell (p := ⟨w.heap.size + 1 + 1 + 1, 0, none⟩) (by simp; omega) _).setCell (p := ⟨w.heap.size + 1 + 1 + 1, 1, none⟩) (by simp; omega) _).setCell (p := ⟨w.heap.size + 1 + 1 + 1, 2, none⟩) (by simp; omega) _⟩
  exact heap_store (heap_store (heap_store h.bo _) _) _
/-- One call of reach, with the closure of the line's walk. -/
theorem reach_one (w W : World) (A0 : Option Addr) (c0 : Nat) (l0 : List S25) (a wid st : Int) (hC0 : Kd.C k25 w A0 l0.length l0) (hc0 : l0.length ≤ c0) (hB : OneB w W A0 c0 l0 a wid st) (n : Nat) (ha : a = (n : Int)) (hn : n ≤ l0.length) (hlen : l0.length < 1099511627776)
    (A1 : Option Addr) (c1 : Nat) (xs : List Int) (hC1 : Kd.C (Kd.int .i64) W A1 xs.length xs) (hc1 : xs.length ≤ c1) (hxs : ∀ q ∈ xs, ∃ p : Nat, q = p ∧ n ≤ p ∧ p ≤ l0.length) (hxl : xs.length < 4611686018427387904) (r1 : Int) (r2 : Bool) (r3 : Int) (h : reachO (fitO l0 a wid st) 0 0 xs = some (r1, r2, r3)) :
    Calls Try.prog 69 #[.slice A1 xs.length c1, .func (.func 68) #[] #[.pointer (some ⟨w.heap.size, 0, none⟩), .pointer (some ⟨w.heap.size + 1, 0, none⟩), .pointer (some ⟨w.heap.size + 2, 0, none⟩)]] W fun e w' => e = .returned (.tuple #[.int .i64 r1, .bool r2, .int .i64 r3]) ∧ Below W.heap.size W w' := by
  refine reach_calls A1 c1 xs 68 _ (fitO l0 a wid st) r1 r2 r3 W hC1 hc1 (enters_of Try.func68 (by kernel_rfl) rfl) ?_ h hxl
  rintro q ⟨g, e⟩ W' hq hf hW'
  obtain ⟨p, rfl, h1, h2⟩ := hxs q hq
  have hB' := hB.step hW'
  exact fits_calls w W' A0 c0 l0 hC0 hc0 hB'.below _ _ _ _ _ _ hB'.bl hB'.bf hB'.br n p ha h1 h2 g e hf (by omega)
end
section
open Go.Proofs.Ytkcmehijmgjgfaa.It Go.Shelf
theorem OneB.grown {w W W' : World} {A0 : Option Addr} {c0 : Nat} {l0 : List S25} {a wid st : Int} (h : OneB w W A0 c0 l0 a wid st) {row : Option Nat} (hg : W.grownBy W' row) (hr : ∀ k, row = some k → w.heap.size + 4 ≤ k) (hB : Below w.heap.size w W') : OneB w W' A0 c0 l0 a wid st := by
  have q := Lv.grown (O := fun k => w.heap.size + 4 ≤ k) hg hr
  exact ⟨boxed_lv q h.bl (by omega), boxed_lv q h.bf (by omega), q.heap h.br (by omega), q.heap h.bo (by omega), hB⟩
theorem OneB.size {w W : World} {A0 : Option Addr} {c0 : Nat} {l0 : List S25} {a wid st : Int} (h : OneB w W A0 c0 l0 a wid st) : w.heap.size + 4 ≤ W.heap.size := by
  have := (Array.getElem?_eq_some_iff.1 h.bo).1
  omega
set_option maxRecDepth 100000 in
set_option maxHeartbeats 8000000 in
theorem fill_One.calls (A0 : Option Addr) (c0 : Nat) (l0 : List S25) (a1 a2_0 a2_1 : Int) (r1 r2 : Int) (r3 : Bool) (r4 : Int) (w : World) (hr0 : Kd.C k25 w A0 l0.length l0) (hc0 : l0.length ≤ c0) (h : fill_One.f l0 a1 a2_0 a2_1 = some (r1, r2, r3, r4)) :
    Calls Try.prog 36 #[.slice A0 l0.length c0, .int .i64 a1, .agg #[.int .i64 a2_0, .int .i64 a2_1]] w fun e w' => e = .returned (.tuple #[.agg #[.int .i64 r1, .int .i64 r2, .bool r3], .int .i64 r4]) ∧ Below w.heap.size w w' := by
  unfold fill_One.f at h
  by_cases hlen : l0.length < 1099511627776
  case neg => rw [if_neg hlen] at h; cases h
  rw [if_pos hlen] at h
  have HC0 := Aside0.mk hr0
  have HE := Aside0.mk (fill_Ends_f l0 a1 hlen)
  have HST := Aside0.mk (OneB.start w A0 c0 l0 a1 a2_0 a2_1)
  have H0 := Aside0.mk h
  clear hr0 h
  go_enter Try.func36, Try.ntmps36
  have bs := HST.out
  have x1 := bs.bl.cell
  have x2 := bs.bf.cell
  go_wp2_with fail
  by_cases hm : mayS l0 a1 = true
  · rw [hm] at HE
    refine (fill_Ends.calls A0 c0 l0 a1 (someS l0 a1.toNat) (otherS l0 a1.toNat) 0 _ (Kd.C_below HC0.out bs.below) hc0 (by rw [HE.out, if_pos rfl])).mono ?_
    rintro e w1 ⟨v0, v1, rfl, hR0, hR1, hb1⟩
    have HB1 := Aside0.mk (bs.step hb1)
    obtain ⟨A2, c2, rfl, hc2, hC2⟩ := Kd.R_reads hR0
    obtain ⟨A3, c3, rfl, hc3, hC3⟩ := Kd.R_reads hR1
    have HC2 := Aside0.mk hC2
    have HC3 := Aside0.mk hC3
    have ha : 0 ≤ a1 ∧ a1 ≤ (l0.length : Int) := by
      unfold mayS at hm
      rw [Bool.and_eq_true] at hm
      simpa using hm.2
    obtain ⟨n, rfl⟩ : ∃ n : Nat, a1 = n := ⟨a1.toNat, by omega⟩
    rw [Int.toNat_natCast] at H0 HC2 HC3 hc2 hc3 ⊢
    have hn : n ≤ l0.length := by omega
    clear x1 x2 bs hb1 hR0 hR1 hC2 hC3 ha HE HST
    have b1 := HB1.out
    have x1 := b1.bl.cell
    have x2 := b1.bf.cell
    have x3 : w1.cell? ⟨w.heap.size + 1 + 1, 0, none⟩ = some (.int .i64 a2_0) := by rw [heap_cellAt b1.br]; rfl
    have o0 : w1.cell? ⟨w.heap.size + 1 + 1 + 1, 0, none⟩ = some (.int .i64 0) := by rw [heap_cellAt b1.bo]; rfl
    have o1 : w1.cell? ⟨w.heap.size + 1 + 1 + 1, 1, none⟩ = some (.int .i64 0) := by rw [heap_cellAt b1.bo]; rfl
    have o2 : w1.cell? ⟨w.heap.size + 1 + 1 + 1, 2, none⟩ = some (.bool false) := by rw [heap_cellAt b1.bo]; rfl
    have p0 : w1.frozen? ⟨w.heap.size + 1 + 1 + 1, 0, none⟩ = false := heap_frozenAt (i := 0) b1.bo
    have p1 : w1.frozen? ⟨w.heap.size + 1 + 1 + 1, 1, none⟩ = false := heap_frozenAt (i := 1) b1.bo
    have p2 : w1.frozen? ⟨w.heap.size + 1 + 1 + 1, 2, none⟩ = false := heap_frozenAt (i := 2) b1.bo
    by_cases hw : a2_0 < 0
    · have y : decide (a2_0 < 0) = true := by simpa using hw
      have h := H0.out
      rw [if_neg (fun hq => by omega)] at h
      have HR := Aside0.mk (Option.some.inj h)
      clear h hw H0
      go_wp2
      obtain ⟨ho, hbo⟩ := one_out b1 0 0 false
      have k0 := heap_cellAt (i := 0) ho
      have k1 := heap_cellAt (i := 1) ho
      have k2 := heap_cellAt (i := 2) ho
      refine bodyPost_ret (v := .tuple #[.agg #[.int .i64 0, .int .i64 0, .bool false], .int .i64 2]) (by simp [results, Try.f36, go_sem, k0, k1, k2]) rfl ?_
      have hq := HR.out
      cases hq
      exact ⟨rfl, hbo⟩
    · have y : decide (a2_0 < 0) = false := by simpa using hw
      have h := H0.out
      rw [if_pos ⟨hm, by omega⟩] at h
      obtain ⟨⟨tt, ok, ee⟩, hreach, h⟩ := Option.bind_eq_some_iff.1 h
      dsimp only at h
      obtain ⟨xs, hxs⟩ : ∃ xs, xs = someS l0 n := ⟨_, rfl⟩
      obtain ⟨ys, hys⟩ : ∃ ys, ys = otherS l0 n := ⟨_, rfl⟩
      have hxl : xs.length < 4611686018427387904 := by
        have h1 := endsS_length (fun c => c.f4) l0 n (lastS l0 n).1
        have h2 := (lastS_le l0 n hn).2
        rw [hxs]; unfold someS; simp; omega
      have hyl : ys.length < 1099511627776 := by
        have h1 := endsS_length (fun c => c.f5) l0 n (lastS l0 n).1
        have h2 := (lastS_le l0 n hn).2
        rw [hys]; unfold otherS; simp; omega
      have hxm : ∀ q ∈ xs, ∃ p : Nat, q = p ∧ n ≤ p ∧ p ≤ l0.length := by rw [hxs]; exact someS_mem l0 n hn
      have hym : ∀ q ∈ ys, ∃ p : Nat, q = p ∧ n ≤ p ∧ p ≤ l0.length := by rw [hys]; exact otherS_mem l0 n hn
      rw [← hxs] at hc2 HC2 hreach
      rw [← hys] at hc3 HC3 h
      rw [← hxs, ← hys]
      have HY := Aside0.mk hym
      have HCALL := Aside0.mk (fun W (hW : OneB w W A0 c0 l0 (n : Int) a2_0 a2_1) A1 c1 (zs : List Int) hC hc hm hl q1 q2 q3 hq => reach_one w W A0 c0 l0 (n : Int) a2_0 a2_1 HC0.out hc0 hW n rfl hn hlen A1 c1 zs hC hc hm hl q1 q2 q3 hq)
      have H1 := Aside0.mk (HCALL.out w1 b1 A2 c2 xs HC2.out hc2 hxm hxl tt ok ee hreach)
      clear hxs hys hxm hym hreach hw hm H0
      go_wp2_with fail
      refine H1.out.mono ?_
      rintro e w2 ⟨rfl, hb2⟩
      have HB2 := Aside0.mk (b1.step hb2)
      have HC3' := Aside0.mk (Kd.C_below HC3.out hb2)
      clear x1 x2 x3 o0 o1 o2 p0 p1 p2 b1 HB1 hb2 H1 HC2 HC3
      have H := Aside0.mk h
      clear h
      go_wp2
      go_loopw [14, 44] (fun nv iv wr => ∃ (i : Nat), i ≤ ys.length ∧ iv = .int .i64 (i : Int) ∧ Aside0 (Kd.R (Kd.int .i64) 3 wr w2.heap.size (fun _ => True) nv ((ys.take i).filter fun p => decide (p < tt))) ∧ Aside0 (Below w2.heap.size w2 wr))
        (fun _ iv _ => ys.length - (intOf iv).toNat)
      case atStart => exact ⟨0, by omega, rfl, ⟨Kd.R_nil _ _ _ _ _⟩, ⟨Below.refl _ _⟩⟩
      case round =>
        obtain ⟨i, hi, rfl, HRN, HBW⟩ := hrel
        have HB3 := Aside0.mk (HB2.out.step HBW.out)
        have HC4 := Aside0.mk (Kd.C_below HC3'.out HBW.out)
        by_cases hlt : i < ys.length
        · obtain ⟨ad, ea, hx⟩ := Kd.at_int HC4.out (i : Int) (by omega) (by omega)
          cases ea
          rw [Int.toNat_natCast] at hx
          have hrd : rd ys (i : Int) = ys[i] := by unfold rd; rw [Int.toNat_natCast, List.getD_eq_getElem?_getD, List.getElem?_eq_getElem hlt]; rfl
          rw [hrd] at hx
          have hts := take_filter_succ ys (fun p => decide (p < tt)) i hlt
          have hfl : ((ys.take i).filter fun p => decide (p < tt)).length ≤ i := by
            have h1 := List.length_filter_le (fun p => decide (p < tt)) (ys.take i)
            rw [List.length_take] at h1
            omega
          obtain ⟨q, hq⟩ : ∃ q, q = ys[i] := ⟨_, rfl⟩
          rw [← hq] at hx hts
          obtain ⟨zs, hzs⟩ : ∃ zs, zs = (ys.take i).filter fun p => decide (p < tt) := ⟨_, rfl⟩
          rw [← hzs] at HRN hfl hts
          have y1 : decide ((i : Int) < (ys.length : Int)) = true := by simp; omega
          clear hq hrd hzs
          by_cases hqt : q < tt
          · have y2 : decide (q < tt) = true := by simpa using hqt
            rw [if_pos y2] at hts
            have HTS := Aside0.mk hts
            have HFL := Aside0.mk hfl
            clear hts hfl hqt
            go_wp2_with (at_builtin; refine Kd.R_append (Kd.int .i64) (w0 := w2) w2.heap.size rfl (.tmp 51) (.tmp 53) 55 3 (.int .i64 0) 8 rfl Try.underlying55 infoInt3 rfl (by decide) (by decide) u14 zs q [.int .i64 q] (fun _ => True) (fun _ => False) rfl rfl rfl (fun _ hk => hk.elim) (fun _ _ => trivial) HRN.out HBW.out HBW.out.size (by have := HFL.out; omega) ?_; intro v2 w5 hR5 hB5 _ _; rw [← HTS.out] at hR5; have HR5 := Aside0.mk hR5; have HB5 := Aside0.mk hB5; clear hR5 hB5)
            go_roundw
            case rel => exact ⟨i + 1, by omega, by go_num, HR5, HB5⟩
            case measure => simp [intOf]; omega
          · have y2 : decide (q < tt) = false := by simpa using hqt
            rw [if_neg (by simp [hqt]), List.append_nil] at hts
            have HTS := Aside0.mk hts
            clear hts hfl hqt
            go_wp2
            go_roundw
            case rel => exact ⟨i + 1, by omega, by go_num, ⟨by rw [HTS.out]; exact HRN.out⟩, HBW⟩
            case measure => simp [intOf]; omega
        · obtain rfl : i = ys.length := by omega
          have hrn := HRN.out
          rw [List.take_length] at hrn
          obtain ⟨zs, hzs⟩ : ∃ zs, zs = ys.filter fun p => decide (p < tt) := ⟨_, rfl⟩
          have hzm : ∀ q ∈ zs, ∃ p : Nat, q = p ∧ n ≤ p ∧ p ≤ l0.length := fun q hq => HY.out q (by rw [hzs] at hq; exact (List.mem_filter.1 hq).1)
          have hzl : zs.length < 1099511627776 := by
            have h1 := List.length_filter_le (fun p => decide (p < tt)) ys
            rw [hzs]; omega
          have h := H.out
          rw [← hzs] at hrn h
          obtain ⟨A5, c5, rfl, hc5, hC5⟩ := Kd.R_reads hrn
          have y1 : decide ((ys.length : Int) < (ys.length : Int)) = false := by simp
          clear hzs hrn HRN H HB2 HC4 HBW HC3'
          by_cases hcond : ee = 0 ∧ ok = false ∧ 0 < zs.length
          · rw [if_pos hcond] at h
            obtain ⟨⟨t2, e2⟩, hmap, h⟩ := Option.bind_eq_some_iff.1 h
            obtain ⟨⟨ta, tb, tc⟩, hreach, hmap⟩ := Option.map_eq_some_iff.1 hmap
            cases hmap
            dsimp only at h
            obtain ⟨rfl, rfl, hz0⟩ := hcond
            have y2 : decide (0 < (zs.length : Int)) = true := by simp; omega
            have y3 : decide (0 < zs.length) = true := by simp; omega
            have b3 := HB3.out
            have H1 := Aside0.mk (HCALL.out wr b3 A5 c5 zs hC5 hc5 hzm (by omega) ta tb tc hreach)
            clear hreach hC5 hzm HCALL
            go_wp2_with fail
            refine H1.out.mono ?_
            rintro e w4 ⟨rfl, hb4⟩
            have HB4 := Aside0.mk (b3.step hb4)
            clear hb4 b3 H1
            have bz := HB4.out
            have x1 := bz.bl.cell
            have x2 := bz.bf.cell
            have x3 : w4.cell? ⟨w.heap.size + 1 + 1, 0, none⟩ = some (.int .i64 a2_0) := by rw [heap_cellAt bz.br]; rfl
            have o0 : w4.cell? ⟨w.heap.size + 1 + 1 + 1, 0, none⟩ = some (.int .i64 0) := by rw [heap_cellAt bz.bo]; rfl
            have o1 : w4.cell? ⟨w.heap.size + 1 + 1 + 1, 1, none⟩ = some (.int .i64 0) := by rw [heap_cellAt bz.bo]; rfl
            have o2 : w4.cell? ⟨w.heap.size + 1 + 1 + 1, 2, none⟩ = some (.bool false) := by rw [heap_cellAt bz.bo]; rfl
            have p0 : w4.frozen? ⟨w.heap.size + 1 + 1 + 1, 0, none⟩ = false := heap_frozenAt (i := 0) bz.bo
            have p1 : w4.frozen? ⟨w.heap.size + 1 + 1 + 1, 1, none⟩ = false := heap_frozenAt (i := 1) bz.bo
            have p2 : w4.frozen? ⟨w.heap.size + 1 + 1 + 1, 2, none⟩ = false := heap_frozenAt (i := 2) bz.bo
            by_cases he : tc = 0
            · rw [if_pos he] at h
              have z1 : (tc != 0) = false := by rw [bne_eq_false_iff_eq]; exact he
              have HLA := Aside0.mk (last_S l0 n hn (by omega))
              have HR := Aside0.mk (Option.some.inj h)
              obtain ⟨u, hu⟩ : ∃ u : Int, u = ((lastS l0 n).1 : Int) := ⟨_, rfl⟩
              obtain ⟨fo, hfo⟩ : ∃ fo, fo = (lastS l0 n).2 := ⟨_, rfl⟩
              rw [← hu, ← hfo] at HLA HR
              clear h he hu hfo
              go_wp2_with fail
              refine (fill_last.calls (l0.length + 2) A0 c0 l0 (n : Int) u fo _ (Kd.C_below HC0.out bz.below) hc0 HLA.out).mono ?_
              rintro e9 w9 ⟨rfl, hd⟩
              obtain ⟨n9, rfl⟩ := hd.out
              have HZ := Aside0.mk (bz.step (pw_below_drewN (Below.refl _ _) n9))
              clear hd x1 x2 x3 o0 o1 o2 p0 p1 p2 bz
              have bz := HZ.out
              have x1 := bz.bl.cell
              have x2 := bz.bf.cell
              have x3 : (w4.drewN n9).cell? ⟨w.heap.size + 1 + 1, 0, none⟩ = some (.int .i64 a2_0) := by rw [heap_cellAt bz.br]; rfl
              have o0 : (w4.drewN n9).cell? ⟨w.heap.size + 1 + 1 + 1, 0, none⟩ = some (.int .i64 0) := by rw [heap_cellAt bz.bo]; rfl
              have o1 : (w4.drewN n9).cell? ⟨w.heap.size + 1 + 1 + 1, 1, none⟩ = some (.int .i64 0) := by rw [heap_cellAt bz.bo]; rfl
              have o2 : (w4.drewN n9).cell? ⟨w.heap.size + 1 + 1 + 1, 2, none⟩ = some (.bool false) := by rw [heap_cellAt bz.bo]; rfl
              have p0 : (w4.drewN n9).frozen? ⟨w.heap.size + 1 + 1 + 1, 0, none⟩ = false := heap_frozenAt (i := 0) bz.bo
              have p1 : (w4.drewN n9).frozen? ⟨w.heap.size + 1 + 1 + 1, 1, none⟩ = false := heap_frozenAt (i := 1) bz.bo
              have p2 : (w4.drewN n9).frozen? ⟨w.heap.size + 1 + 1 + 1, 2, none⟩ = false := heap_frozenAt (i := 2) bz.bo
              have y2 : (ta == u) = decide (ta = u) := rfl
              cases fo with
              | false =>
                go_wp2
                obtain ⟨ho, hbo⟩ := one_out bz (n : Int) ta false
                have k0 := heap_cellAt (i := 0) ho
                have k1 := heap_cellAt (i := 1) ho
                have k2 := heap_cellAt (i := 2) ho
                refine bodyPost_ret (v := .tuple #[.agg #[.int .i64 (n : Int), .int .i64 ta, .bool false], .int .i64 0]) (by simp [results, Try.f36, go_sem, k0, k1, k2]) rfl ?_
                have hq := HR.out
                cases hq
                exact ⟨rfl, hbo⟩
              | true =>
                go_wp2
                obtain ⟨ho, hbo⟩ := one_out bz (n : Int) ta (decide (ta = u))
                have k0 := heap_cellAt (i := 0) ho
                have k1 := heap_cellAt (i := 1) ho
                have k2 := heap_cellAt (i := 2) ho
                refine bodyPost_ret (v := .tuple #[.agg #[.int .i64 (n : Int), .int .i64 ta, .bool (decide (ta = u))], .int .i64 0]) (by simp [results, Try.f36, go_sem, k0, k1, k2]) rfl ?_
                have hq := HR.out
                cases hq
                exact ⟨rfl, hbo⟩
            · rw [if_neg he] at h
              have z1 : (tc != 0) = true := by rw [bne_iff_ne]; exact he
              have HR := Aside0.mk (Option.some.inj h)
              clear h he
              go_wp2
              obtain ⟨ho, hbo⟩ := one_out bz 0 0 false
              have k0 := heap_cellAt (i := 0) ho
              have k1 := heap_cellAt (i := 1) ho
              have k2 := heap_cellAt (i := 2) ho
              refine bodyPost_ret (v := .tuple #[.agg #[.int .i64 0, .int .i64 0, .bool false], .int .i64 tc]) (by simp [results, Try.f36, go_sem, k0, k1, k2]) rfl ?_
              have hq := HR.out
              cases hq
              exact ⟨rfl, hbo⟩
          · rw [if_neg hcond] at h
            rw [Option.bind_some] at h
            dsimp only at h
            have b3 := HB3.out
            by_cases hee : ee = 0
            · have z0 : (ee == 0) = true := by rw [beq_iff_eq]; exact hee
              cases ok with
              | true =>
                clear hcond hC5 hzm HCALL hee
                have bz := HB3.out
                have x1 := bz.bl.cell
                have x2 := bz.bf.cell
                have x3 : wr.cell? ⟨w.heap.size + 1 + 1, 0, none⟩ = some (.int .i64 a2_0) := by rw [heap_cellAt bz.br]; rfl
                have o0 : wr.cell? ⟨w.heap.size + 1 + 1 + 1, 0, none⟩ = some (.int .i64 0) := by rw [heap_cellAt bz.bo]; rfl
                have o1 : wr.cell? ⟨w.heap.size + 1 + 1 + 1, 1, none⟩ = some (.int .i64 0) := by rw [heap_cellAt bz.bo]; rfl
                have o2 : wr.cell? ⟨w.heap.size + 1 + 1 + 1, 2, none⟩ = some (.bool false) := by rw [heap_cellAt bz.bo]; rfl
                have p0 : wr.frozen? ⟨w.heap.size + 1 + 1 + 1, 0, none⟩ = false := heap_frozenAt (i := 0) bz.bo
                have p1 : wr.frozen? ⟨w.heap.size + 1 + 1 + 1, 1, none⟩ = false := heap_frozenAt (i := 1) bz.bo
                have p2 : wr.frozen? ⟨w.heap.size + 1 + 1 + 1, 2, none⟩ = false := heap_frozenAt (i := 2) bz.bo
                by_cases he : ee = 0
                · rw [if_pos he] at h
                  have z1 : (ee != 0) = false := by rw [bne_eq_false_iff_eq]; exact he
                  have HLA := Aside0.mk (last_S l0 n hn (by omega))
                  have HR := Aside0.mk (Option.some.inj h)
                  obtain ⟨u, hu⟩ : ∃ u : Int, u = ((lastS l0 n).1 : Int) := ⟨_, rfl⟩
                  obtain ⟨fo, hfo⟩ : ∃ fo, fo = (lastS l0 n).2 := ⟨_, rfl⟩
                  rw [← hu, ← hfo] at HLA HR
                  clear h he hu hfo
                  go_wp2_with fail
                  refine (fill_last.calls (l0.length + 2) A0 c0 l0 (n : Int) u fo _ (Kd.C_below HC0.out bz.below) hc0 HLA.out).mono ?_
                  rintro e9 w9 ⟨rfl, hd⟩
                  obtain ⟨n9, rfl⟩ := hd.out
                  have HZ := Aside0.mk (bz.step (pw_below_drewN (Below.refl _ _) n9))
                  clear hd x1 x2 x3 o0 o1 o2 p0 p1 p2 bz
                  have bz := HZ.out
                  have x1 := bz.bl.cell
                  have x2 := bz.bf.cell
                  have x3 : (wr.drewN n9).cell? ⟨w.heap.size + 1 + 1, 0, none⟩ = some (.int .i64 a2_0) := by rw [heap_cellAt bz.br]; rfl
                  have o0 : (wr.drewN n9).cell? ⟨w.heap.size + 1 + 1 + 1, 0, none⟩ = some (.int .i64 0) := by rw [heap_cellAt bz.bo]; rfl
                  have o1 : (wr.drewN n9).cell? ⟨w.heap.size + 1 + 1 + 1, 1, none⟩ = some (.int .i64 0) := by rw [heap_cellAt bz.bo]; rfl
                  have o2 : (wr.drewN n9).cell? ⟨w.heap.size + 1 + 1 + 1, 2, none⟩ = some (.bool false) := by rw [heap_cellAt bz.bo]; rfl
                  have p0 : (wr.drewN n9).frozen? ⟨w.heap.size + 1 + 1 + 1, 0, none⟩ = false := heap_frozenAt (i := 0) bz.bo
                  have p1 : (wr.drewN n9).frozen? ⟨w.heap.size + 1 + 1 + 1, 1, none⟩ = false := heap_frozenAt (i := 1) bz.bo
                  have p2 : (wr.drewN n9).frozen? ⟨w.heap.size + 1 + 1 + 1, 2, none⟩ = false := heap_frozenAt (i := 2) bz.bo
                  have y2 : (tt == u) = decide (tt = u) := rfl
                  cases fo with
                  | false =>
                    go_wp2
                    obtain ⟨ho, hbo⟩ := one_out bz (n : Int) tt false
                    have k0 := heap_cellAt (i := 0) ho
                    have k1 := heap_cellAt (i := 1) ho
                    have k2 := heap_cellAt (i := 2) ho
                    refine bodyPost_ret (v := .tuple #[.agg #[.int .i64 (n : Int), .int .i64 tt, .bool false], .int .i64 0]) (by simp [results, Try.f36, go_sem, k0, k1, k2]) rfl ?_
                    have hq := HR.out
                    cases hq
                    exact ⟨rfl, hbo⟩
                  | true =>
                    go_wp2
                    obtain ⟨ho, hbo⟩ := one_out bz (n : Int) tt (decide (tt = u))
                    have k0 := heap_cellAt (i := 0) ho
                    have k1 := heap_cellAt (i := 1) ho
                    have k2 := heap_cellAt (i := 2) ho
                    refine bodyPost_ret (v := .tuple #[.agg #[.int .i64 (n : Int), .int .i64 tt, .bool (decide (tt = u))], .int .i64 0]) (by simp [results, Try.f36, go_sem, k0, k1, k2]) rfl ?_
                    have hq := HR.out
                    cases hq
                    exact ⟨rfl, hbo⟩
                · rw [if_neg he] at h
                  have z1 : (ee != 0) = true := by rw [bne_iff_ne]; exact he
                  have HR := Aside0.mk (Option.some.inj h)
                  clear h he
                  go_wp2
                  obtain ⟨ho, hbo⟩ := one_out bz 0 0 false
                  have k0 := heap_cellAt (i := 0) ho
                  have k1 := heap_cellAt (i := 1) ho
                  have k2 := heap_cellAt (i := 2) ho
                  refine bodyPost_ret (v := .tuple #[.agg #[.int .i64 0, .int .i64 0, .bool false], .int .i64 ee]) (by simp [results, Try.f36, go_sem, k0, k1, k2]) rfl ?_
                  have hq := HR.out
                  cases hq
                  exact ⟨rfl, hbo⟩
              | false =>
                have y2 : decide (0 < (zs.length : Int)) = false := by
                  simp; exact List.length_eq_zero_iff.1 (Nat.eq_zero_of_not_pos fun h => hcond ⟨hee, rfl, h⟩)
                have y3 : decide (0 < zs.length) = false := by
                  rw [decide_eq_false_iff_not]; exact fun h => hcond ⟨hee, rfl, h⟩
                clear hcond hC5 hzm HCALL hee
                have bz := HB3.out
                have x1 := bz.bl.cell
                have x2 := bz.bf.cell
                have x3 : wr.cell? ⟨w.heap.size + 1 + 1, 0, none⟩ = some (.int .i64 a2_0) := by rw [heap_cellAt bz.br]; rfl
                have o0 : wr.cell? ⟨w.heap.size + 1 + 1 + 1, 0, none⟩ = some (.int .i64 0) := by rw [heap_cellAt bz.bo]; rfl
                have o1 : wr.cell? ⟨w.heap.size + 1 + 1 + 1, 1, none⟩ = some (.int .i64 0) := by rw [heap_cellAt bz.bo]; rfl
                have o2 : wr.cell? ⟨w.heap.size + 1 + 1 + 1, 2, none⟩ = some (.bool false) := by rw [heap_cellAt bz.bo]; rfl
                have p0 : wr.frozen? ⟨w.heap.size + 1 + 1 + 1, 0, none⟩ = false := heap_frozenAt (i := 0) bz.bo
                have p1 : wr.frozen? ⟨w.heap.size + 1 + 1 + 1, 1, none⟩ = false := heap_frozenAt (i := 1) bz.bo
                have p2 : wr.frozen? ⟨w.heap.size + 1 + 1 + 1, 2, none⟩ = false := heap_frozenAt (i := 2) bz.bo
                by_cases he : ee = 0
                · rw [if_pos he] at h
                  have z1 : (ee != 0) = false := by rw [bne_eq_false_iff_eq]; exact he
                  have HLA := Aside0.mk (last_S l0 n hn (by omega))
                  have HR := Aside0.mk (Option.some.inj h)
                  obtain ⟨u, hu⟩ : ∃ u : Int, u = ((lastS l0 n).1 : Int) := ⟨_, rfl⟩
                  obtain ⟨fo, hfo⟩ : ∃ fo, fo = (lastS l0 n).2 := ⟨_, rfl⟩
                  rw [← hu, ← hfo] at HLA HR
                  clear h he hu hfo
                  go_wp2_with fail
                  refine (fill_last.calls (l0.length + 2) A0 c0 l0 (n : Int) u fo _ (Kd.C_below HC0.out bz.below) hc0 HLA.out).mono ?_
                  rintro e9 w9 ⟨rfl, hd⟩
                  obtain ⟨n9, rfl⟩ := hd.out
                  have HZ := Aside0.mk (bz.step (pw_below_drewN (Below.refl _ _) n9))
                  clear hd x1 x2 x3 o0 o1 o2 p0 p1 p2 bz
                  have bz := HZ.out
                  have x1 := bz.bl.cell
                  have x2 := bz.bf.cell
                  have x3 : (wr.drewN n9).cell? ⟨w.heap.size + 1 + 1, 0, none⟩ = some (.int .i64 a2_0) := by rw [heap_cellAt bz.br]; rfl
                  have o0 : (wr.drewN n9).cell? ⟨w.heap.size + 1 + 1 + 1, 0, none⟩ = some (.int .i64 0) := by rw [heap_cellAt bz.bo]; rfl
                  have o1 : (wr.drewN n9).cell? ⟨w.heap.size + 1 + 1 + 1, 1, none⟩ = some (.int .i64 0) := by rw [heap_cellAt bz.bo]; rfl
                  have o2 : (wr.drewN n9).cell? ⟨w.heap.size + 1 + 1 + 1, 2, none⟩ = some (.bool false) := by rw [heap_cellAt bz.bo]; rfl
                  have p0 : (wr.drewN n9).frozen? ⟨w.heap.size + 1 + 1 + 1, 0, none⟩ = false := heap_frozenAt (i := 0) bz.bo
                  have p1 : (wr.drewN n9).frozen? ⟨w.heap.size + 1 + 1 + 1, 1, none⟩ = false := heap_frozenAt (i := 1) bz.bo
                  have p2 : (wr.drewN n9).frozen? ⟨w.heap.size + 1 + 1 + 1, 2, none⟩ = false := heap_frozenAt (i := 2) bz.bo
                  have y2 : (tt == u) = decide (tt = u) := rfl
                  cases fo with
                  | false =>
                    go_wp2
                    obtain ⟨ho, hbo⟩ := one_out bz (n : Int) tt false
                    have k0 := heap_cellAt (i := 0) ho
                    have k1 := heap_cellAt (i := 1) ho
                    have k2 := heap_cellAt (i := 2) ho
                    refine bodyPost_ret (v := .tuple #[.agg #[.int .i64 (n : Int), .int .i64 tt, .bool false], .int .i64 0]) (by simp [results, Try.f36, go_sem, k0, k1, k2]) rfl ?_
                    have hq := HR.out
                    cases hq
                    exact ⟨rfl, hbo⟩
                  | true =>
                    go_wp2
                    obtain ⟨ho, hbo⟩ := one_out bz (n : Int) tt (decide (tt = u))
                    have k0 := heap_cellAt (i := 0) ho
                    have k1 := heap_cellAt (i := 1) ho
                    have k2 := heap_cellAt (i := 2) ho
                    refine bodyPost_ret (v := .tuple #[.agg #[.int .i64 (n : Int), .int .i64 tt, .bool (decide (tt = u))], .int .i64 0]) (by simp [results, Try.f36, go_sem, k0, k1, k2]) rfl ?_
                    have hq := HR.out
                    cases hq
                    exact ⟨rfl, hbo⟩
                · rw [if_neg he] at h
                  have z1 : (ee != 0) = true := by rw [bne_iff_ne]; exact he
                  have HR := Aside0.mk (Option.some.inj h)
                  clear h he
                  go_wp2
                  obtain ⟨ho, hbo⟩ := one_out bz 0 0 false
                  have k0 := heap_cellAt (i := 0) ho
                  have k1 := heap_cellAt (i := 1) ho
                  have k2 := heap_cellAt (i := 2) ho
                  refine bodyPost_ret (v := .tuple #[.agg #[.int .i64 0, .int .i64 0, .bool false], .int .i64 ee]) (by simp [results, Try.f36, go_sem, k0, k1, k2]) rfl ?_
                  have hq := HR.out
                  cases hq
                  exact ⟨rfl, hbo⟩
            · have z0 : (ee == 0) = false := by rw [beq_eq_false_iff_ne]; exact hee
              clear hcond hC5 hzm HCALL
              have bz := HB3.out
              have x1 := bz.bl.cell
              have x2 := bz.bf.cell
              have x3 : wr.cell? ⟨w.heap.size + 1 + 1, 0, none⟩ = some (.int .i64 a2_0) := by rw [heap_cellAt bz.br]; rfl
              have o0 : wr.cell? ⟨w.heap.size + 1 + 1 + 1, 0, none⟩ = some (.int .i64 0) := by rw [heap_cellAt bz.bo]; rfl
              have o1 : wr.cell? ⟨w.heap.size + 1 + 1 + 1, 1, none⟩ = some (.int .i64 0) := by rw [heap_cellAt bz.bo]; rfl
              have o2 : wr.cell? ⟨w.heap.size + 1 + 1 + 1, 2, none⟩ = some (.bool false) := by rw [heap_cellAt bz.bo]; rfl
              have p0 : wr.frozen? ⟨w.heap.size + 1 + 1 + 1, 0, none⟩ = false := heap_frozenAt (i := 0) bz.bo
              have p1 : wr.frozen? ⟨w.heap.size + 1 + 1 + 1, 1, none⟩ = false := heap_frozenAt (i := 1) bz.bo
              have p2 : wr.frozen? ⟨w.heap.size + 1 + 1 + 1, 2, none⟩ = false := heap_frozenAt (i := 2) bz.bo
              by_cases he : ee = 0
              · rw [if_pos he] at h
                have z1 : (ee != 0) = false := by rw [bne_eq_false_iff_eq]; exact he
                have HLA := Aside0.mk (last_S l0 n hn (by omega))
                have HR := Aside0.mk (Option.some.inj h)
                obtain ⟨u, hu⟩ : ∃ u : Int, u = ((lastS l0 n).1 : Int) := ⟨_, rfl⟩
                obtain ⟨fo, hfo⟩ : ∃ fo, fo = (lastS l0 n).2 := ⟨_, rfl⟩
                rw [← hu, ← hfo] at HLA HR
                clear h he hu hfo
                go_wp2_with fail
                refine (fill_last.calls (l0.length + 2) A0 c0 l0 (n : Int) u fo _ (Kd.C_below HC0.out bz.below) hc0 HLA.out).mono ?_
                rintro e9 w9 ⟨rfl, hd⟩
                obtain ⟨n9, rfl⟩ := hd.out
                have HZ := Aside0.mk (bz.step (pw_below_drewN (Below.refl _ _) n9))
                clear hd x1 x2 x3 o0 o1 o2 p0 p1 p2 bz
                have bz := HZ.out
                have x1 := bz.bl.cell
                have x2 := bz.bf.cell
                have x3 : (wr.drewN n9).cell? ⟨w.heap.size + 1 + 1, 0, none⟩ = some (.int .i64 a2_0) := by rw [heap_cellAt bz.br]; rfl
                have o0 : (wr.drewN n9).cell? ⟨w.heap.size + 1 + 1 + 1, 0, none⟩ = some (.int .i64 0) := by rw [heap_cellAt bz.bo]; rfl
                have o1 : (wr.drewN n9).cell? ⟨w.heap.size + 1 + 1 + 1, 1, none⟩ = some (.int .i64 0) := by rw [heap_cellAt bz.bo]; rfl
                have o2 : (wr.drewN n9).cell? ⟨w.heap.size + 1 + 1 + 1, 2, none⟩ = some (.bool false) := by rw [heap_cellAt bz.bo]; rfl
                have p0 : (wr.drewN n9).frozen? ⟨w.heap.size + 1 + 1 + 1, 0, none⟩ = false := heap_frozenAt (i := 0) bz.bo
                have p1 : (wr.drewN n9).frozen? ⟨w.heap.size + 1 + 1 + 1, 1, none⟩ = false := heap_frozenAt (i := 1) bz.bo
                have p2 : (wr.drewN n9).frozen? ⟨w.heap.size + 1 + 1 + 1, 2, none⟩ = false := heap_frozenAt (i := 2) bz.bo
                have y2 : (tt == u) = decide (tt = u) := rfl
                cases fo with
                | false =>
                  go_wp2
                  obtain ⟨ho, hbo⟩ := one_out bz (n : Int) tt false
                  have k0 := heap_cellAt (i := 0) ho
                  have k1 := heap_cellAt (i := 1) ho
                  have k2 := heap_cellAt (i := 2) ho
                  refine bodyPost_ret (v := .tuple #[.agg #[.int .i64 (n : Int), .int .i64 tt, .bool false], .int .i64 0]) (by simp [results, Try.f36, go_sem, k0, k1, k2]) rfl ?_
                  have hq := HR.out
                  cases hq
                  exact ⟨rfl, hbo⟩
                | true =>
                  go_wp2
                  obtain ⟨ho, hbo⟩ := one_out bz (n : Int) tt (decide (tt = u))
                  have k0 := heap_cellAt (i := 0) ho
                  have k1 := heap_cellAt (i := 1) ho
                  have k2 := heap_cellAt (i := 2) ho
                  refine bodyPost_ret (v := .tuple #[.agg #[.int .i64 (n : Int), .int .i64 tt, .bool (decide (tt = u))], .int .i64 0]) (by simp [results, Try.f36, go_sem, k0, k1, k2]) rfl ?_
                  have hq := HR.out
                  cases hq
                  exact ⟨rfl, hbo⟩
              · rw [if_neg he] at h
                have z1 : (ee != 0) = true := by rw [bne_iff_ne]; exact he
                have HR := Aside0.mk (Option.some.inj h)
                clear h he
                go_wp2
                obtain ⟨ho, hbo⟩ := one_out bz 0 0 false
                have k0 := heap_cellAt (i := 0) ho
                have k1 := heap_cellAt (i := 1) ho
                have k2 := heap_cellAt (i := 2) ho
                refine bodyPost_ret (v := .tuple #[.agg #[.int .i64 0, .int .i64 0, .bool false], .int .i64 ee]) (by simp [results, Try.f36, go_sem, k0, k1, k2]) rfl ?_
                have hq := HR.out
                cases hq
                exact ⟨rfl, hbo⟩
  · rw [Bool.not_eq_true] at hm
    rw [hm] at HE
    rw [if_neg (by rw [hm]; simp)] at H0
    have HR := Aside0.mk (Option.some.inj H0.out)
    refine (fill_Ends.calls A0 c0 l0 a1 [] [] 2 _ (Kd.C_below HC0.out bs.below) hc0 (by rw [HE.out, if_neg (by simp)])).mono ?_
    rintro e w1 ⟨v0, v1, rfl, hR0, hR1, hb1⟩
    have b1 := bs.step hb1
    clear x1 x2 bs hb1 hR0 hR1 HE HST H0
    have x1 := b1.bl.cell
    have x2 := b1.bf.cell
    have x3 : w1.cell? ⟨w.heap.size + 1 + 1, 0, none⟩ = some (.int .i64 a2_0) := by rw [heap_cellAt b1.br]; rfl
    have o0 : w1.cell? ⟨w.heap.size + 1 + 1 + 1, 0, none⟩ = some (.int .i64 0) := by rw [heap_cellAt b1.bo]; rfl
    have o1 : w1.cell? ⟨w.heap.size + 1 + 1 + 1, 1, none⟩ = some (.int .i64 0) := by rw [heap_cellAt b1.bo]; rfl
    have o2 : w1.cell? ⟨w.heap.size + 1 + 1 + 1, 2, none⟩ = some (.bool false) := by rw [heap_cellAt b1.bo]; rfl
    have p0 : w1.frozen? ⟨w.heap.size + 1 + 1 + 1, 0, none⟩ = false := heap_frozenAt (i := 0) b1.bo
    have p1 : w1.frozen? ⟨w.heap.size + 1 + 1 + 1, 1, none⟩ = false := heap_frozenAt (i := 1) b1.bo
    have p2 : w1.frozen? ⟨w.heap.size + 1 + 1 + 1, 2, none⟩ = false := heap_frozenAt (i := 2) b1.bo
    go_wp2
    obtain ⟨ho, hbo⟩ := one_out b1 0 0 false
    have k0 := heap_cellAt (i := 0) ho
    have k1 := heap_cellAt (i := 1) ho
    have k2 := heap_cellAt (i := 2) ho
    refine bodyPost_ret (v := .tuple #[.agg #[.int .i64 0, .int .i64 0, .bool false], .int .i64 2]) (by simp [results, Try.f36, go_sem, k0, k1, k2]) rfl ?_
    have hq := HR.out
    cases hq
    exact ⟨rfl, hbo⟩
end

end Go.Proofs.Ytkcmehijmgjgfaa.MFillForced
