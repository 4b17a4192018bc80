/-
  A law for 'for .. := range f' at the wide fence, where what comes is a known list, where the iterator may write boxes of its own, and where the body may write boxes of the caller's.
-/
import Derived.RangeFuncNested
import Derived.WalkKit
import Derived.Deep.Draws
import Derived.Maps.OwnIn
import Derived.Maps.AppendAt
import Derived.Test.YtkcmehijmgjgfaaWWords
namespace Go.Proofs.Ytkcmehijmgjgfaa.It
open Go Go.RowKit Go.Proofs.YtkcmehijmgjgfaaW.PrintWords
set_option linter.unusedVariables false

/-- B is A but for blocks in O, and for new ones. -/
structure Lv (O : Nat → Prop) (A B : World) : Prop where
  os : B.os = A.os
  tape : B.tape = A.tape
  output : B.output = A.output
  size : A.heap.size ≤ B.heap.size
  block : ∀ k, k < A.heap.size → ¬ O k → B.heap[k]? = A.heap[k]?

theorem Lv.refl (O : Nat → Prop) (A : World) : Lv O A A := ⟨rfl, rfl, rfl, Nat.le_refl _, fun _ _ _ => rfl⟩
theorem Lv.trans {O : Nat → Prop} {A B C : World} (h : Lv O A B) (k : Lv O B C) : Lv O A C :=
  ⟨k.os.trans h.os, k.tape.trans h.tape, k.output.trans h.output, Nat.le_trans h.size k.size, fun i hi ho => (k.block i (Nat.lt_of_lt_of_le hi h.size) ho).trans (h.block i hi ho)⟩
theorem Lv.mono {O O' : Nat → Prop} {A B : World} (h : Lv O A B) (ho : ∀ i, i < A.heap.size → O i → O' i) : Lv O' A B :=
  ⟨h.os, h.tape, h.output, h.size, fun k hk hn => h.block k hk (fun e => hn (ho k hk e))⟩
theorem Lv.trans_of {O O' O'' : Nat → Prop} {A B C : World} (h : Lv O A B) (k : Lv O' B C) (h1 : ∀ i, i < A.heap.size → O i → O'' i) (h2 : ∀ i, i < A.heap.size → O' i → O'' i) : Lv O'' A C :=
  ⟨k.os.trans h.os, k.tape.trans h.tape, k.output.trans h.output, Nat.le_trans h.size k.size, fun i hi ho => (k.block i (Nat.lt_of_lt_of_le hi h.size) (fun e => ho (h2 i hi e))).trans (h.block i hi (fun e => ho (h1 i hi e)))⟩
theorem Lv.of_below {O : Nat → Prop} {A B : World} (h : Below A.heap.size A B) : Lv O A B := ⟨h.os, h.tape, h.output, h.size, fun k hk _ => h.block k hk⟩
theorem Lv.of_belowAt {O : Nat → Prop} {A B : World} {b : Nat} (h : Below b A B) (ho : ∀ i, b ≤ i → O i) : Lv O A B :=
  ⟨h.os, h.tape, h.output, h.size, fun k hk hn => h.block k (by by_cases e : k < b; exact e; exact absurd (ho k (by omega)) hn)⟩
theorem Lv.below {O : Nat → Prop} {A B : World} {b : Nat} (h : Lv O A B) (hb : b ≤ A.heap.size) (ho : ∀ i, i < b → ¬ O i) : Below b A B :=
  ⟨h.os, h.tape, h.output, h.size, fun k hk => h.block k (by omega) (ho k hk)⟩
theorem Lv.alloc (O : Nat → Prop) (A : World) (o : Obj) : Lv O A (A.alloc o) := Lv.of_below ((Below.refl _ A).alloc (Nat.le_refl _) o)
theorem Lv.drew (O : Nat → Prop) (A : World) : Lv O A A.drew := Lv.of_below ((Below.refl _ A).drew)
theorem Lv.drewN (O : Nat → Prop) (A : World) (n : Nat) : Lv O A (A.drewN n) := ⟨rfl, rfl, rfl, Nat.le_refl _, fun _ _ _ => rfl⟩
theorem Lv.putObj {O : Nat → Prop} {A : World} {r : Nat} (o : Obj) (h : O r) : Lv O A (A.putObj r o) :=
  ⟨rfl, rfl, rfl, by simp, fun k _ hn => World.putObj_heap_other (fun e => hn (e ▸ h))⟩
theorem Lv.setCell {O : Nat → Prop} {A : World} {p : Addr} (u : Value) (h : O p.block) : Lv O A (A.setCell p u) :=
  ⟨rfl, rfl, rfl, by simp [World.setCell], fun k _ hn => Below.heap_setCell _ _ _ k (fun e => hn (e ▸ h))⟩
theorem Lv.grown {O : Nat → Prop} {A B : World} {row : Option Nat} (h : A.grownBy B row) (ho : ∀ k, row = some k → O k) : Lv O A B :=
  ⟨h.os, h.tape, h.output, h.size, fun k hk hn => h.block k hk (fun e => hn (ho k e.symm))⟩
theorem Lv.heap {O : Nat → Prop} {A B : World} (h : Lv O A B) {k : Nat} {o : Obj} (hk : A.heap[k]? = some o) (hn : ¬ O k) : B.heap[k]? = some o :=
  (h.block k (Array.getElem?_eq_some_iff.1 hk).1 hn).trans hk
theorem Lv.cell {O : Nat → Prop} {A B : World} (h : Lv O A B) {a : Addr} {v : Value} (hc : A.cell? a = some v) (hn : ¬ O a.block) : B.cell? a = some v := by
  have hlt := World.block_lt_of_cell? A a hc
  unfold World.cell? at hc ⊢
  rw [h.block a.block hlt hn]
  exact hc
theorem Lv.frozen {O : Nat → Prop} {A B : World} (h : Lv O A B) {a : Addr} (hlt : a.block < A.heap.size) (hn : ¬ O a.block) : B.frozen? a = A.frozen? a := by
  unfold World.frozen?
  rw [h.block a.block hlt hn]

/-- A round's word: it goes on, or it says 'no more'. -/
def RoundWord (Oc : Nat → Prop) (J Jx : Nat → World → Prop) (k : Nat) (W : World) (e : Ending) (W' : World) : Prop :=
  (e = .returned (.bool true) ∧ J (k + 1) W' ∧ Lv Oc W W') ∨ (e = .returned (.bool false) ∧ Jx (k + 1) W' ∧ Lv Oc W W')

/-- What an iterator's call ends in. -/
def SeqWord (N : Nat) (J Jx : Nat → World → Prop) (e : Ending) (W' : World) : Prop :=
  (∃ v, e = .returned v) ∧ (J N W' ∨ ∃ k, k ≤ N ∧ Jx k W')

/-- THE ITERATOR's CONTRACT: xs come, in order, till a round says 'no more'. Oi: what it writes of what lay; Oc: what a round may write. -/
def Seq (m : Nat) (P : Program) (g : Nat) (lb : Array Value) (xs : List (Array Value)) (Oi Oc : Nat → Prop) (w : World) : Prop :=
  ∀ (l : Nat) (J Jx : Nat → World → Prop) (W : World), Lv Oc w W →
    (∀ k A B, J k A → Lv Oi A B → J k B) → (∀ k A B, Jx k A → Lv Oi A B → Jx k B) →
    (∀ k (h : k < xs.length) W1, J k W1 → YieldAt Fence.wide m P l (xs[k]'h) W1 (RoundWord Oc J Jx k W1)) →
    J 0 W → CallsIn Fence.wide (m + 1) P g (#[.func (.yield l) #[] #[]] ++ lb) W (SeqWord xs.length J Jx)

/-- How a round's body is left. -/
def bodyWord (Ob : Nat → Prop) (I : Nat → World → Prop) (Ix : Code → Nat → World → Prop) (k : Nat) (W : World) : Exit → Act → World → Prop
  | .normal, _, W' => Lv Ob W W' ∧ I (k + 1) W'
  | .ret, _, W' => Lv Ob W W' ∧ Ix .ret (k + 1) W'
  | .exit id, _, W' => Lv Ob W W' ∧ Ix (.exit id) (k + 1) W'
  | .goto t, _, W' => Lv Ob W W' ∧ Ix (.goto t) (k + 1) W'
  | .panic _, _, _ => False
  | .outgrown, _, _ => False

theorem wp_ranged {P : Program} {m : Nat} {α : Type} {g : Operand} {ps : Array Tmp} {assign body : Code} {Q : Exit → Act → World → Prop} {a : Act} {w : World} {gf : Nat} {lb : Array Value}
    (hg : a.eval g = .func (.func gf) #[] lb) (eg : ∀ args w, (callFunc gf args).run P w = .ok (.enter gf args) w)
    (xs : List α) (enc : α → Array Value) (hps : ∀ x ∈ xs, (enc x).size = ps.size) (Oi Ob : Nat → Prop) (hOb : ¬ Ob w.heap.size ∧ ¬ Ob (w.heap.size + 1)) (hOi : ∀ i, Oi i → i < w.heap.size)
    (hseq : Seq m P gf lb (xs.map enc) Oi (fun i => Ob i ∨ i = w.heap.size ∨ i = w.heap.size + 1) w)
    (I : Nat → World → Prop) (Ix : Code → Nat → World → Prop)
    (hI : ∀ k A B, I k A → Lv (fun i => Oi i ∨ i = w.heap.size ∨ i = w.heap.size + 1) A B → I k B)
    (hIx : ∀ c k A B, Ix c k A → Lv (fun i => Oi i ∨ i = w.heap.size ∨ i = w.heap.size + 1) A B → Ix c k B)
    (h0 : I 0 w) (a₁ : α → Act)
    (hassign : ∀ (l : Nat) (x : α) (W : World) (K : Act → World → Prop), x ∈ xs → K (a₁ x) W →
      assign.wpIn (Fence.wide.inRound l) m P (Exit.then K (fun _ _ _ => False)) { tmps := (ps.zip (enc x)).foldl (fun t (p, v) => t.setIfInBounds p v) a.tmps, defers := [] } W)
    (hbody : ∀ (l k : Nat) (hk : k < xs.length) (W : World), W.heap[w.heap.size]? = some (.deferred (some [])) → (∃ r, W.heap[w.heap.size + 1]? = some (.loop r)) → I k W → body.wpIn (Fence.wide.inRound l) m P (bodyWord Ob I Ix k W) (a₁ (xs[k]'hk)) W)
    (hdone : ∀ (W : World), I xs.length W → W.heap[w.heap.size]? = some (.deferred (some [])) → Q .normal { a with defers := { target := .collected w.heap.size, args := #[] } :: a.defers } W)
    (hstop : ∀ (c : Code) (k : Nat) (W : World), k ≤ xs.length → Ix c k W → W.heap[w.heap.size]? = some (.deferred (some [])) → c.wp P Q { a with defers := { target := .collected w.heap.size, args := #[] } :: a.defers } W) :
    (Code.rangeFunc g ps assign body).wp P Q a w := by
  refine (wpIn_wide (n := m + 2)).1 (wpIn_rangeFunc ?_)
  intro fn hfn
  obtain ⟨D, hD⟩ : ∃ D, D = w.heap.size := ⟨_, rfl⟩
  obtain ⟨rec, hrec⟩ : ∃ rec : LoopState → Option Code → Loop, rec = fun st pe => { state := st, pending := pe, fn, tmps := a.tmps, params := ps, assign, body, defers := w.heap.size } := ⟨_, rfl⟩
  obtain ⟨W1, hW1⟩ : ∃ W1, (w.alloc (.deferred (some []))).alloc (.loop (rec .ready none)) = W1 := ⟨_, rfl⟩
  have hL1 : W1.heap[D + 1]? = some (.loop (rec .ready none)) := by
    rw [← hW1, hD]; have := World.alloc_heap_new (w.alloc (.deferred (some []))) (.loop (rec .ready none)); rwa [World.size_alloc] at this
  have hK1 : W1.heap[D]? = some (.deferred (some [])) := by
    rw [← hW1, hD]; exact (Below.heap_alloc _ _ _ (by simp)).trans (World.alloc_heap_new w _)
  have hlv : ∀ O : Nat → Prop, Lv O w W1 := fun O => by rw [← hW1]; exact (Lv.alloc O _ _).trans (Lv.alloc O _ _)
  have hI1 : I 0 W1 := hI 0 _ _ h0 (hlv _)
  rw [← hD] at hOb hOi hI hIx hdone hstop hbody hseq
  refine ⟨D + 1, [{ target := .collected D, args := #[] }], W1, { target := .fn (.func gf) lb, args := #[.func (.yield (D + 1)) #[] #[]] }, W1, gf,
    #[.func (.yield (D + 1)) #[] #[]] ++ lb, W1, ?_, ?_, ?_, ?_, fun h => by simp [Fence.wide] at h, ?_⟩
  · rw [← hW1, hrec, hD]; exact run_enterLoop_outer _ _ _ _ _
  · simp only [resolve, hg]
    simp [go_sem]
  · intro f' _; trivial
  · simp [invoke, go_sem, eg]
  · have hcall := hseq (D + 1)
      (fun k W => I k W ∧ W.heap[D + 1]? = some (.loop (rec .ready none)) ∧ W.heap[D]? = some (.deferred (some [])))
      (fun k W => ∃ c, Ix c k W ∧ W.heap[D + 1]? = some (.loop (rec .done (some c))) ∧ W.heap[D]? = some (.deferred (some [])))
      W1 (hlv _)
      (fun k A B hs hl => ⟨hI k A B hs.1 (hl.mono fun _ _ h => .inl h), hl.heap hs.2.1 (fun h => by have := hOi _ h; omega), hl.heap hs.2.2 (fun h => by have := hOi _ h; omega)⟩)
      (fun k A B hs hl => by
        obtain ⟨c, hc, h1, h2⟩ := hs
        exact ⟨c, hIx c k A B hc (hl.mono fun _ _ h => .inl h), hl.heap h1 (fun h => by have := hOi _ h; omega), hl.heap h2 (fun h => by have := hOi _ h; omega)⟩)
      ?_ ⟨hI1, hL1, hK1⟩
    · refine CallsIn.mono hcall ?_
      rw [List.length_map]
      rintro e W2 ⟨⟨v, rfl⟩, (⟨hi, hl, hk⟩ | ⟨k, hkN, c, hi, hl, hk⟩)⟩
      · exact ⟨none, _, by have := run_endLoop (P := P) hl (by rw [hrec]; simp); rw [hrec] at this; exact this, hdone _ (hI _ _ _ hi (Lv.putObj _ (.inr (.inr rfl)))) ((World.putObj_heap_other (by omega)).trans hk)⟩
      · exact ⟨some c, _, by have := run_endLoop (P := P) hl (by rw [hrec]; simp); rw [hrec] at this; exact this, (wpIn_wide (n := m + 2)).2 (hstop c k _ hkN (hIx _ _ _ _ hi (Lv.putObj _ (.inr (.inr rfl)))) ((World.putObj_heap_other (by omega)).trans hk))⟩
    · -- one round
      rintro k hk W ⟨hi, hl, hkd⟩
      have hlt : D + 1 < W.heap.size := (Array.getElem?_eq_some_iff.1 hl).1
      have hk' : k < xs.length := by simpa using hk
      have hmem : xs[k]'hk' ∈ xs := List.getElem_mem hk'
      rw [List.getElem_map]
      have hy := run_yield (P := P) (args := enc (xs[k]'hk')) hl (by rw [hrec]; exact hps _ hmem)
      rw [hrec] at hy
      refine ⟨fn, _, assign, body, hy, roundIn_of_wpIn hfn (hassign _ _ W _ hmem ⟨_, run_beginRound hl (by rw [hrec]), ?_⟩)⟩
      have hl2 : (W.putObj (D + 1) (.loop { rec .ready none with state := .busy })).heap[D + 1]? = some (.loop { rec .ready none with state := .busy }) := World.putObj_heap_same hlt
      have hk2 : (W.putObj (D + 1) (.loop { rec .ready none with state := .busy })).heap[D]? = some (.deferred (some [])) := (World.putObj_heap_other (by omega)).trans hkd
      refine wpIn_mono (hbody (D + 1) k hk' _ hk2 ⟨_, hl2⟩ (hI _ _ _ hi (Lv.putObj _ (.inr (.inr rfl))))) ?_
      have fin : ∀ (jump : Option Code) (W3 : World), Lv Ob (W.putObj (D + 1) (.loop { rec .ready none with state := .busy })) W3 →
          (Instr.endRound (D + 1) jump).run P W3 = .ok (.bool jump.isNone) (W3.putObj (D + 1) (.loop (rec (if jump.isNone then .ready else .done) jump))) ∧
          (W3.putObj (D + 1) (.loop (rec (if jump.isNone then .ready else .done) jump))).heap[D + 1]? = some (.loop (rec (if jump.isNone then .ready else .done) jump)) ∧
          (W3.putObj (D + 1) (.loop (rec (if jump.isNone then .ready else .done) jump))).heap[D]? = some (.deferred (some [])) ∧
          Lv (fun i => Ob i ∨ i = D ∨ i = D + 1) W (W3.putObj (D + 1) (.loop (rec (if jump.isNone then .ready else .done) jump))) := fun jump W3 hk3 => by
        have hl3 := hk3.heap hl2 hOb.2
        have := run_endRound (P := P) jump hl3
        rw [hrec] at this ⊢
        refine ⟨this, World.putObj_heap_same (Array.getElem?_eq_some_iff.1 hl3).1, (World.putObj_heap_other (by omega)).trans (hk3.heap hk2 hOb.1), ?_⟩
        rw [hrec] at hk3
        exact ((Lv.putObj _ (.inr (.inr rfl))).trans (hk3.mono fun _ _ h => .inl h)).trans (Lv.putObj _ (.inr (.inr rfl)))
      rintro e a3 W3 hp
      cases e with
      | normal =>
        obtain ⟨hk3, hi3⟩ := hp
        obtain ⟨hr, hl4, hk4, hlv4⟩ := fin none W3 hk3
        exact ⟨_, _, hr, .inl ⟨rfl, ⟨hI _ _ _ hi3 (Lv.putObj _ (.inr (.inr rfl))), hl4, hk4⟩, hlv4⟩⟩
      | ret =>
        obtain ⟨hk3, hi3⟩ := hp
        obtain ⟨hr, hl4, hk4, hlv4⟩ := fin (some .ret) W3 hk3
        exact ⟨_, _, hr, .inr ⟨rfl, ⟨.ret, hIx _ _ _ _ hi3 (Lv.putObj _ (.inr (.inr rfl))), hl4, hk4⟩, hlv4⟩⟩
      | exit id =>
        obtain ⟨hk3, hi3⟩ := hp
        obtain ⟨hr, hl4, hk4, hlv4⟩ := fin (some (.exit id)) W3 hk3
        exact ⟨_, _, hr, .inr ⟨rfl, ⟨.exit id, hIx _ _ _ _ hi3 (Lv.putObj _ (.inr (.inr rfl))), hl4, hk4⟩, hlv4⟩⟩
      | goto t =>
        obtain ⟨hk3, hi3⟩ := hp
        obtain ⟨hr, hl4, hk4, hlv4⟩ := fin (some (.goto t)) W3 hk3
        exact ⟨_, _, hr, .inr ⟨rfl, ⟨.goto t, hIx _ _ _ _ hi3 (Lv.putObj _ (.inr (.inr rfl))), hl4, hk4⟩, hlv4⟩⟩
      | panic ch => exact hp.elim
      | outgrown => exact hp.elim

/-- The same, where the loop's variable is boxed: the assign code lays blocks. -/
theorem wp_rangedX {P : Program} {m : Nat} {α : Type} {g : Operand} {ps : Array Tmp} {assign body : Code} {Q : Exit → Act → World → Prop} {a : Act} {w : World} {gf : Nat} {lb : Array Value}
    (hg : a.eval g = .func (.func gf) #[] lb) (eg : ∀ args w, (callFunc gf args).run P w = .ok (.enter gf args) w)
    (xs : List α) (enc : α → Array Value) (hps : ∀ x ∈ xs, (enc x).size = ps.size) (Oi Ob : Nat → Prop) (hOb : ¬ Ob w.heap.size ∧ ¬ Ob (w.heap.size + 1)) (hOi : ∀ i, Oi i → i < w.heap.size)
    (hseq : Seq m P gf lb (xs.map enc) Oi (fun i => Ob i ∨ i = w.heap.size ∨ i = w.heap.size + 1) w)
    (I : Nat → World → Prop) (Ix : Code → Nat → World → Prop)
    (hI : ∀ k A B, I k A → Lv (fun i => Oi i ∨ i = w.heap.size ∨ i = w.heap.size + 1) A B → I k B)
    (hIx : ∀ c k A B, Ix c k A → Lv (fun i => Oi i ∨ i = w.heap.size ∨ i = w.heap.size + 1) A B → Ix c k B)
    (h0 : I 0 w) (Ax : Nat → Act → World → Prop) (hAx : ∀ k a' A B, Ax k a' A → Lv (fun i => i = w.heap.size ∨ i = w.heap.size + 1) A B → Ax k a' B)
    (hassign : ∀ (l k : Nat) (hk : k < xs.length) (W : World) (K : Act → World → Prop), w.heap.size + 1 < W.heap.size → I k W → (∀ a' W', Lv Ob W W' → I k W' → Ax k a' W' → K a' W') →
      assign.wpIn (Fence.wide.inRound l) m P (Exit.then K (fun _ _ _ => False)) { tmps := (ps.zip (enc (xs[k]'hk))).foldl (fun t (p, v) => t.setIfInBounds p v) a.tmps, defers := [] } W)
    (hbody : ∀ (l k : Nat) (hk : k < xs.length) (a' : Act) (W : World), W.heap[w.heap.size]? = some (.deferred (some [])) → (∃ r, W.heap[w.heap.size + 1]? = some (.loop r)) → I k W → Ax k a' W → body.wpIn (Fence.wide.inRound l) m P (bodyWord Ob I Ix k W) a' W)
    (hdone : ∀ (W : World), I xs.length W → W.heap[w.heap.size]? = some (.deferred (some [])) → Q .normal { a with defers := { target := .collected w.heap.size, args := #[] } :: a.defers } W)
    (hstop : ∀ (c : Code) (k : Nat) (W : World), k ≤ xs.length → Ix c k W → W.heap[w.heap.size]? = some (.deferred (some [])) → c.wp P Q { a with defers := { target := .collected w.heap.size, args := #[] } :: a.defers } W) :
    (Code.rangeFunc g ps assign body).wp P Q a w := by
  refine (wpIn_wide (n := m + 2)).1 (wpIn_rangeFunc ?_)
  intro fn hfn
  obtain ⟨D, hD⟩ : ∃ D, D = w.heap.size := ⟨_, rfl⟩
  obtain ⟨rec, hrec⟩ : ∃ rec : LoopState → Option Code → Loop, rec = fun st pe => { state := st, pending := pe, fn, tmps := a.tmps, params := ps, assign, body, defers := w.heap.size } := ⟨_, rfl⟩
  obtain ⟨W1, hW1⟩ : ∃ W1, (w.alloc (.deferred (some []))).alloc (.loop (rec .ready none)) = W1 := ⟨_, rfl⟩
  have hL1 : W1.heap[D + 1]? = some (.loop (rec .ready none)) := by
    rw [← hW1, hD]; have := World.alloc_heap_new (w.alloc (.deferred (some []))) (.loop (rec .ready none)); rwa [World.size_alloc] at this
  have hK1 : W1.heap[D]? = some (.deferred (some [])) := by
    rw [← hW1, hD]; exact (Below.heap_alloc _ _ _ (by simp)).trans (World.alloc_heap_new w _)
  have hlv : ∀ O : Nat → Prop, Lv O w W1 := fun O => by rw [← hW1]; exact (Lv.alloc O _ _).trans (Lv.alloc O _ _)
  have hI1 : I 0 W1 := hI 0 _ _ h0 (hlv _)
  rw [← hD] at hOb hOi hI hIx hdone hstop hbody hseq hAx hassign
  refine ⟨D + 1, [{ target := .collected D, args := #[] }], W1, { target := .fn (.func gf) lb, args := #[.func (.yield (D + 1)) #[] #[]] }, W1, gf,
    #[.func (.yield (D + 1)) #[] #[]] ++ lb, W1, ?_, ?_, ?_, ?_, fun h => by simp [Fence.wide] at h, ?_⟩
  · rw [← hW1, hrec, hD]; exact run_enterLoop_outer _ _ _ _ _
  · simp only [resolve, hg]
    simp [go_sem]
  · intro f' _; trivial
  · simp [invoke, go_sem, eg]
  · have hcall := hseq (D + 1)
      (fun k W => I k W ∧ W.heap[D + 1]? = some (.loop (rec .ready none)) ∧ W.heap[D]? = some (.deferred (some [])))
      (fun k W => ∃ c, Ix c k W ∧ W.heap[D + 1]? = some (.loop (rec .done (some c))) ∧ W.heap[D]? = some (.deferred (some [])))
      W1 (hlv _)
      (fun k A B hs hl => ⟨hI k A B hs.1 (hl.mono fun _ _ h => .inl h), hl.heap hs.2.1 (fun h => by have := hOi _ h; omega), hl.heap hs.2.2 (fun h => by have := hOi _ h; omega)⟩)
      (fun k A B hs hl => by
        obtain ⟨c, hc, h1, h2⟩ := hs
        exact ⟨c, hIx c k A B hc (hl.mono fun _ _ h => .inl h), hl.heap h1 (fun h => by have := hOi _ h; omega), hl.heap h2 (fun h => by have := hOi _ h; omega)⟩)
      ?_ ⟨hI1, hL1, hK1⟩
    · refine CallsIn.mono hcall ?_
      rw [List.length_map]
      rintro e W2 ⟨⟨v, rfl⟩, (⟨hi, hl, hk⟩ | ⟨k, hkN, c, hi, hl, hk⟩)⟩
      · exact ⟨none, _, by have := run_endLoop (P := P) hl (by rw [hrec]; simp); rw [hrec] at this; exact this, hdone _ (hI _ _ _ hi (Lv.putObj _ (.inr (.inr rfl)))) ((World.putObj_heap_other (by omega)).trans hk)⟩
      · exact ⟨some c, _, by have := run_endLoop (P := P) hl (by rw [hrec]; simp); rw [hrec] at this; exact this, (wpIn_wide (n := m + 2)).2 (hstop c k _ hkN (hIx _ _ _ _ hi (Lv.putObj _ (.inr (.inr rfl)))) ((World.putObj_heap_other (by omega)).trans hk))⟩
    · -- one round
      rintro k hk Wz ⟨hiz, hlz, hkdz⟩
      have hk' : k < xs.length := by simpa using hk
      have hmem : xs[k]'hk' ∈ xs := List.getElem_mem hk'
      rw [List.getElem_map]
      have hy := run_yield (P := P) (args := enc (xs[k]'hk')) hlz (by rw [hrec]; exact hps _ hmem)
      rw [hrec] at hy
      refine ⟨fn, _, assign, body, hy, roundIn_of_wpIn hfn (hassign (D + 1) k hk' Wz _ (Array.getElem?_eq_some_iff.1 hlz).1 hiz ?_)⟩
      intro a' W hlva hi hax
      have hl := hlva.heap hlz hOb.2
      have hkd := hlva.heap hkdz hOb.1
      have hlt : D + 1 < W.heap.size := (Array.getElem?_eq_some_iff.1 hl).1
      refine ⟨_, run_beginRound hl (by rw [hrec]), ?_⟩
      have hl2 : (W.putObj (D + 1) (.loop { rec .ready none with state := .busy })).heap[D + 1]? = some (.loop { rec .ready none with state := .busy }) := World.putObj_heap_same hlt
      have hk2 : (W.putObj (D + 1) (.loop { rec .ready none with state := .busy })).heap[D]? = some (.deferred (some [])) := (World.putObj_heap_other (by omega)).trans hkd
      refine wpIn_mono (hbody (D + 1) k hk' a' _ hk2 ⟨_, hl2⟩ (hI _ _ _ hi (Lv.putObj _ (.inr (.inr rfl)))) (hAx _ _ _ _ hax (Lv.putObj _ (.inr rfl)))) ?_
      have fin : ∀ (jump : Option Code) (W3 : World), Lv Ob (W.putObj (D + 1) (.loop { rec .ready none with state := .busy })) W3 →
          (Instr.endRound (D + 1) jump).run P W3 = .ok (.bool jump.isNone) (W3.putObj (D + 1) (.loop (rec (if jump.isNone then .ready else .done) jump))) ∧
          (W3.putObj (D + 1) (.loop (rec (if jump.isNone then .ready else .done) jump))).heap[D + 1]? = some (.loop (rec (if jump.isNone then .ready else .done) jump)) ∧
          (W3.putObj (D + 1) (.loop (rec (if jump.isNone then .ready else .done) jump))).heap[D]? = some (.deferred (some [])) ∧
          Lv (fun i => Ob i ∨ i = D ∨ i = D + 1) Wz (W3.putObj (D + 1) (.loop (rec (if jump.isNone then .ready else .done) jump))) := fun jump W3 hk3 => by
        have hl3 := hk3.heap hl2 hOb.2
        have := run_endRound (P := P) jump hl3
        rw [hrec] at this ⊢
        refine ⟨this, World.putObj_heap_same (Array.getElem?_eq_some_iff.1 hl3).1, (World.putObj_heap_other (by omega)).trans (hk3.heap hk2 hOb.1), ?_⟩
        rw [hrec] at hk3
        exact (((hlva.mono fun _ _ h => .inl h).trans (Lv.putObj _ (.inr (.inr rfl)))).trans (hk3.mono fun _ _ h => .inl h)).trans (Lv.putObj _ (.inr (.inr rfl)))
      rintro e a3 W3 hp
      cases e with
      | normal =>
        obtain ⟨hk3, hi3⟩ := hp
        obtain ⟨hr, hl4, hk4, hlv4⟩ := fin none W3 hk3
        exact ⟨_, _, hr, .inl ⟨rfl, ⟨hI _ _ _ hi3 (Lv.putObj _ (.inr (.inr rfl))), hl4, hk4⟩, hlv4⟩⟩
      | ret =>
        obtain ⟨hk3, hi3⟩ := hp
        obtain ⟨hr, hl4, hk4, hlv4⟩ := fin (some .ret) W3 hk3
        exact ⟨_, _, hr, .inr ⟨rfl, ⟨.ret, hIx _ _ _ _ hi3 (Lv.putObj _ (.inr (.inr rfl))), hl4, hk4⟩, hlv4⟩⟩
      | exit id =>
        obtain ⟨hk3, hi3⟩ := hp
        obtain ⟨hr, hl4, hk4, hlv4⟩ := fin (some (.exit id)) W3 hk3
        exact ⟨_, _, hr, .inr ⟨rfl, ⟨.exit id, hIx _ _ _ _ hi3 (Lv.putObj _ (.inr (.inr rfl))), hl4, hk4⟩, hlv4⟩⟩
      | goto t =>
        obtain ⟨hk3, hi3⟩ := hp
        obtain ⟨hr, hl4, hk4, hlv4⟩ := fin (some (.goto t)) W3 hk3
        exact ⟨_, _, hr, .inr ⟨rfl, ⟨.goto t, hIx _ _ _ _ hi3 (Lv.putObj _ (.inr (.inr rfl))), hl4, hk4⟩, hlv4⟩⟩
      | panic ch => exact hp.elim
      | outgrown => exact hp.elim

theorem drop_at {α : Type} {l : List α} {k : Nat} {x : α} {r : List α} (h : l.drop k = x :: r) : ∃ hk : k < l.length, l[k] = x ∧ l.drop (k + 1) = r := by
  have hk : k < l.length := by
    rcases Nat.lt_or_ge k l.length with h1 | h1
    · exact h1
    · rw [List.drop_eq_nil_of_le h1] at h; cases h
  rw [List.drop_eq_getElem_cons hk] at h
  injection h with h1 h2
  exact ⟨hk, h1, h2⟩
theorem yieldAt_of {P : Program} {m l k : Nat} {Oc : Nat → Prop} {J Jx : Nat → World → Prop} {α : Type} {enc : α → Array Value} {ps : List α} (hY : ∀ k (h : k < (ps.map enc).length) W1, J k W1 → YieldAt Fence.wide m P l ((ps.map enc)[k]'h) W1 (RoundWord Oc J Jx k W1))
    {x : α} {r : List α} (h : ps.drop k = x :: r) (W1 : World) (hJ : J k W1) : YieldAt Fence.wide m P l (enc x) W1 (RoundWord Oc J Jx k W1) := by
  obtain ⟨hk, e, _⟩ := drop_at h
  have := hY k (by simpa using hk) W1 hJ
  rwa [List.getElem_map, e] at this

/-- The world gets a name. -/
theorem wp_name {c : Code} {P : Program} {Q : Exit → Act → World → Prop} {a : Act} {w : World} (h : ∀ W, W = w → c.wp P Q a W) : c.wp P Q a w := h w rfl
theorem heap_alloc_get (w : World) (o : Obj) (k : Nat) : (w.alloc o).heap[k]? = if k = w.heap.size then some o else w.heap[k]? := by
  show (w.heap.push o)[k]? = _
  rw [Array.getElem?_push]
theorem heap_drewN_get (w : World) (n k : Nat) : (w.drewN n).heap[k]? = w.heap[k]? := rfl
theorem heap_drewN_size (w : World) (n : Nat) : (w.drewN n).heap.size = w.heap.size := rfl
theorem boxed_at {W : World} {k : Nat} {t : TypeId} {v : Value} (hk : k = W.heap.size) : Boxed (W.alloc (.cells #[v] t)) k t v := hk ▸ Boxed.new W t v
/-- A store into a row of cells. -/
theorem heap_store {W : World} {g i : Nat} {cs : Array Value} {t : TypeId} {fr : Nat × Nat} (h : W.heap[g]? = some (.cells cs t fr)) (v : Value) : (W.setCell ⟨g, i, none⟩ v).heap[g]? = some (.cells (cs.setIfInBounds i v) t fr) := by
  obtain ⟨hlt, hk⟩ := Array.getElem?_eq_some_iff.1 h
  show (W.heap.modify g _)[g]? = _
  rw [Array.getElem?_eq_getElem (by rw [Array.size_modify]; exact hlt), Array.getElem_modify_self, hk]
  rfl
theorem heap_cellAt {W : World} {g i : Nat} {cs : Array Value} {t : TypeId} {fr : Nat × Nat} (h : W.heap[g]? = some (.cells cs t fr)) : W.cell? ⟨g, i, none⟩ = cs[i]? := by
  simp [World.cell?, h]
theorem heap_frozenAt {W : World} {g i : Nat} {cs : Array Value} {t : TypeId} (h : W.heap[g]? = some (.cells cs t (0, 0))) : W.frozen? ⟨g, i, none⟩ = false := by
  simp [World.frozen?, h]
theorem cell_new {W : World} {cs : Array Value} {t : TypeId} {i : Nat} {v : Value} (h : cs[i]? = some v) : (W.alloc (.cells cs t)).cell? ⟨W.heap.size, i, none⟩ = some v := by
  rw [heap_cellAt (World.alloc_heap_new W _)]; exact h
theorem boxed_drewN {W : World} {k t n : Nat} {v : Value} (h : Boxed W k t v) : Boxed (W.drewN n) k t v := h
/-- A literal of numbers. -/
theorem lit_C (W : World) (k : IntKind) (t : TypeId) (xs : List Int) (hm : xs.length ≤ 9223372036854775807) : Kd.C (Kd.int k) (W.alloc (.cells (nums k xs).toArray t)) (some ⟨W.heap.size, 0, none⟩) xs.length xs := by
  refine Kd.C_of_reads (d := (0 : Int)) (h1 := fun _ => rfl) ⟨rfl, hm, fun _ => ⟨_, rfl, fun j hj => ?_⟩⟩
  rw [add_plain]
  refine cell_new ?_
  simp [nums, List.getD_eq_getElem?_getD, List.getElem?_eq_getElem hj]
/-- A literal of one number. -/
theorem lit1_C (W : World) (k : IntKind) (t : TypeId) (x : Int) : Kd.C (Kd.int k) (W.alloc (.cells #[.int k x] t)) (some ⟨W.heap.size, 0, none⟩) 1 [x] := by
  refine Kd.C_of_reads (d := (0 : Int)) (h1 := fun _ => rfl) ⟨rfl, by omega, fun _ => ⟨_, rfl, fun j hj => ?_⟩⟩
  obtain rfl : j = 0 := by omega
  rw [add_plain]
  exact (Boxed.new W t _).cell
/-- A box B holds a slice that owns xs, in a block of Og. -/
def Coll {α : Type} (b0 B t e : Nat) (Og : Nat → Prop) (enc : α → Value) (xs : List α) (W : World) : Prop :=
  ∃ v, Boxed W B t v ∧ W.ownsRow b0 e 1 v xs.length (xs.map enc) ∧ ∀ g, v.ownBlock = some g → Og g
theorem own_lv {A B : World} {O : Nat → Prop} (h : Lv O A B) {base : Nat} {e : TypeId} {size n : Nat} {v : Value} {xs : List Value} (hr : A.ownsRow base e size v n xs) (hn : ∀ g, v.ownBlock = some g → ¬ O g) : B.ownsRow base e size v n xs := by
  obtain ⟨h1, h2⟩ := hr
  refine ⟨h1, ?_⟩
  rcases h2 with h2 | ⟨g, cap, cur, rfl, hg, hh, r⟩
  · exact .inl h2
  · exact .inr ⟨g, cap, cur, rfl, hg, h.heap hh (hn g (by simp [Value.ownBlock])), r⟩
theorem boxed_lv {A B : World} {O : Nat → Prop} (h : Lv O A B) {b t : Nat} {v : Value} (hb : Boxed A b t v) (hn : ¬ O b) : Boxed B b t v := h.heap hb hn
theorem Coll.lv {α : Type} {b0 b t e : Nat} {Og O : Nat → Prop} {enc : α → Value} {xs : List α} {A B : World} (h : Coll b0 b t e Og enc xs A) (hl : Lv O A B) (hb : ¬ O b) (hO : ∀ g, Og g → ¬ O g) : Coll b0 b t e Og enc xs B := by
  obtain ⟨v, h1, h2, h3⟩ := h
  exact ⟨v, boxed_lv hl h1 hb, own_lv hl h2 (fun g hg => hO g (h3 g hg)), h3⟩
theorem coll_lit {α : Type} {b0 B t e g : Nat} {Og : Nat → Prop} {enc : α → Value} {x : α} {W : World} (hv : Boxed W B t (.slice (some ⟨g, 0, none⟩) 1 1)) (hg : Boxed W g e (enc x)) (hb : b0 ≤ g) (hO : Og g) : Coll b0 B t e Og enc [x] W :=
  ⟨_, hv, ⟨rfl, .inr ⟨g, 1, _, rfl, hb, hg, Nat.le_refl _, by decide, rfl, rfl⟩⟩, fun k hk => by cases hk; exact hO⟩
theorem coll_nil {α : Type} {b0 B t e : Nat} {Og : Nat → Prop} {enc : α → Value} {W : World} (hv : Boxed W B t (.slice none 0 0)) : Coll b0 B t e Og enc [] W :=
  ⟨_, hv, World.ownsRow_nil _ _ _ _, fun k hk => by cases hk⟩
/-- 'out = append(out, x)', behind the append law. -/
theorem coll_appended {α : Type} {W w1 : World} {b0 B t e : Nat} {Og Ob : Nat → Prop} {enc : α → Value} {xs : List α} {x : α} {v v' : Value} {tmp : Obj}
    (hv : Boxed W B t v) (hte : t ≠ e) (hrow : W.ownsRow b0 e 1 v xs.length (xs.map enc)) (hO : ∀ g, v.ownBlock = some g → Og g) (hnew : ∀ g, W.heap.size ≤ g → Og g) (hb0 : b0 ≤ W.heap.size) (hB : b0 ≤ B)
    (hown' : w1.ownsRow b0 e 1 v' (xs.length + 1) (xs.map enc ++ [enc x])) (hgrow : (W.alloc tmp).grownBy w1 v.ownBlock) (hat : v'.ownBlock = v.ownBlock ∨ v'.ownBlock = some (W.alloc tmp).heap.size) (hOb : ∀ g, Og g → Ob g) (hObB : Ob B) :
    Coll b0 B t e Og enc (xs ++ [x]) (w1.setCell ⟨B, 0, none⟩ v') ∧ Lv Ob W (w1.setCell ⟨B, 0, none⟩ v') ∧ Below b0 W (w1.setCell ⟨B, 0, none⟩ v') := by
  obtain ⟨hv1, hv2, hr2, _, hb2⟩ := hv.appended hte hrow hb0 hB hown' hgrow
  refine ⟨⟨v', hv2, by simpa using hr2, fun g hg => ?_⟩, ?_, hb2⟩
  · rcases hat with h | h
    · exact hO g (h ▸ hg)
    · rw [h] at hg
      cases hg
      exact hnew _ (by simp)
  · exact ((Lv.alloc Ob W tmp).trans (Lv.grown hgrow (fun k hk => hOb k (hO k hk)))).trans (Lv.setCell _ hObB)
theorem own_not_cells {W : World} {base : Nat} {e : TypeId} {size n : Nat} {v : Value} {xs : List Value} (hr : W.ownsRow base e size v n xs) {D : Nat} {o : Obj} (hD : W.heap[D]? = some o) (ho : o.isCells = false) : ∀ g, v.ownBlock = some g → g ≠ D := by
  intro g hg e
  subst e
  rcases hr.2 with ⟨rfl, _⟩ | ⟨g', cap, cur, rfl, _, hh, _⟩
  · simp [Value.ownBlock] at hg
  · obtain rfl : g' = g := by simpa [Value.ownBlock] using hg
    rw [hD] at hh
    cases hh
    cases ho

end Go.Proofs.Ytkcmehijmgjgfaa.It
