import Derived.RangeFuncNested
import Derived.RangeFuncBox
import Derived.RangeFuncLeaves
import Derived.Test.YtegckjbjbodhhaaWWords
/- A range over a function whose iterator keeps state of its own in cells: X tells which blocks are the iterator's. The body keeps them; the caller's invariant abides the iterator's writes to them. -/
namespace Go.Proofs.Ytegckjbjbodhhaa.RangeX
open Go.RowKit Go.Proofs.YtegckjbjbodhhaaW.PrintWords

/-- What the iterator may do: grow, write what is its own, and call what is new its own. -/
def AbX {α : Type} (J : List α → (Nat → Prop) → World → Prop) : Prop :=
  ∀ pre X W W' row X', J pre X W → W.grownBy W' row → (∀ r, row = some r → X r) → (∀ k, X' k → X k ∨ (W.heap.size ≤ k ∧ k < W'.heap.size)) → J pre X' W'
/-- What a round keeps of what is the iterator's. -/
def KeepsX (X : Nat → Prop) (W W' : World) : Prop := W.heap.size ≤ W'.heap.size ∧ ∀ k, X k → k < W.heap.size → W'.heap[k]? = W.heap[k]?
theorem KeepsX.refl (X : Nat → Prop) (W : World) : KeepsX X W W := ⟨Nat.le_refl _, fun _ _ _ => rfl⟩
theorem KeepsX.trans {X : Nat → Prop} {A B C : World} (h : KeepsX X A B) (k : KeepsX X B C) : KeepsX X A C := ⟨Nat.le_trans h.1 k.1, fun i hi hl => (k.2 i hi (Nat.lt_of_lt_of_le hl h.1)).trans (h.2 i hi hl)⟩
theorem KeepsX.putObj {X : Nat → Prop} (W : World) (l : Nat) (o : Obj) (hl : ¬ X l) : KeepsX X W (W.putObj l o) := ⟨by simp, fun k hk _ => World.putObj_heap_other (fun e => hl (by rw [← e]; exact hk))⟩
theorem KeepsX.cell {X : Nat → Prop} {W W' : World} (h : KeepsX X W W') {a : Addr} {v : Value} (hX : X a.block) (hc : W.cell? a = some v) : W'.cell? a = some v := by
  have := h.2 a.block hX (World.block_lt_of_cell? W a hc)
  exact (World.cell?_of_block this).trans hc
theorem KeepsX.blk {X : Nat → Prop} {W W' : World} (h : KeepsX X W W') {g : Nat} {o : Obj} (hX : X g) (hc : W.heap[g]? = some o) : W'.heap[g]? = some o := (h.2 g hX (blk_lt hc)).trans hc

/-- What is left to the iterator, when it has handed over what x leads to. -/
def less (X : Nat → Prop) (r : Nat → Prop) : Nat → Prop := fun k => X k ∧ ¬ r k
/-- Ar: what is known of what is handed over; rel: the blocks that go over to the body with it. -/
def SeqX {α : Type} (F : Fence) (n : Nat) (P : Program) (g : Nat) (lb : Array Value) (encs : α → Array Value) (Ar : α → (Nat → Prop) → World → Prop) (rel : α → Nat → Prop) (X0 : Nat → Prop) (S Sp : List α → Prop) (N : Nat) (w : World) : Prop :=
  ∀ (l : Nat) (J Jx : List α → (Nat → Prop) → World → Prop) (W : World), Below w.heap.size w W → AbX J → AbX Jx →
    (∀ pre X x W1, J pre X W1 → Ar x X W1 → pre.length < N → YieldAt F (n - 1) P l (encs x) W1 fun e W' =>
      (e = .returned (.bool true) ∧ J (pre ++ [x]) (less X (rel x)) W' ∧ KeepsX (less X (rel x)) W1 W') ∨ (e = .returned (.bool false) ∧ Jx (pre ++ [x]) (less X (rel x)) W' ∧ KeepsX (less X (rel x)) W1 W')) →
    J [] X0 W →
    CallsIn F n P g (#[.func (.yield l) #[] #[]] ++ lb) W fun e W' => (∃ v, e = .returned v) ∧ ((∃ xs X, S xs ∧ J xs X W') ∨ (∃ pre X, Sp pre ∧ Jx pre X W'))

/-- How the body of a round may be left. -/
def postX {α : Type} (I : List α → (Nat → Prop) → World → Prop) (Ix : Code → List α → (Nat → Prop) → World → Prop) (xs : List α) (X : Nat → Prop) (W : World) : Exit → Act → World → Prop
  | .normal, _, W' => KeepsOthers W W' ∧ KeepsX X W W' ∧ I xs X W'
  | .ret, _, W' => KeepsOthers W W' ∧ KeepsX X W W' ∧ Ix .ret xs X W'
  | .exit id, _, W' => KeepsOthers W W' ∧ KeepsX X W W' ∧ Ix (.exit id) xs X W'
  | .goto t, _, W' => KeepsOthers W W' ∧ KeepsX X W W' ∧ Ix (.goto t) xs X W'
  | .panic _, _, _ => False
  | .outgrown, _, _ => False

/-- The caller's invariant abides what the iterator does to its own blocks, and the turn of a block at or beyond B that is no cells. -/
def OwnX {α : Type} (B : Nat) (I : List α → (Nat → Prop) → World → Prop) : Prop :=
  ∀ pre X W W' row X', I pre X W → W.grownBy W' row → (∀ r, row = some r → X r ∨ (B ≤ r ∧ ∃ o : Obj, W.heap[r]? = some o ∧ o.isCells = false)) → (∀ k, X' k → X k ∨ W.heap.size ≤ k) → I pre X' W'
theorem OwnX.putObj {α : Type} {B : Nat} {I : List α → (Nat → Prop) → World → Prop} (h : OwnX B I) {pre : List α} {X : Nat → Prop} {W : World} {l : Nat} {o : Obj} (o' : Obj) (hs : I pre X W) (hB : B ≤ l) (hl : W.heap[l]? = some o) (ho : o.isCells = false) : I pre X (W.putObj l o') :=
  h pre X W _ (some l) X hs (grownBy_putObj' W l o') (fun r e => by cases e; exact .inr ⟨hB, o, hl, ho⟩) (fun _ hk => .inl hk)
theorem OwnX.alloc {α : Type} {B : Nat} {I : List α → (Nat → Prop) → World → Prop} (h : OwnX B I) {pre : List α} {X : Nat → Prop} {W : World} (o : Obj) (hs : I pre X W) : I pre X (W.alloc o) :=
  h pre X W _ none X hs (World.grownBy_alloc W o none) (fun r e => by cases e) (fun _ hk => .inl hk)

variable {F : Fence} {n : Nat} {P : Program}
theorem wpIn_rangeX {α : Type} {g : Operand} {ps : Array Tmp} {assign body : Code} {Q : Exit → Act → World → Prop} {a : Act} {w : World}
    (hro : F.round = none) (h1 : 1 ≤ n) {gf : Nat} {lb : Array Value} (hg : a.eval g = .func (.func gf) #[] lb) (hFg : F.fn gf) (eg : ∀ args w, (callFunc gf args).run P w = .ok (.enter gf args) w)
    {encs : α → Array Value} {Ar : α → (Nat → Prop) → World → Prop} {rel : α → Nat → Prop} {X0 : Nat → Prop} {S Sp : List α → Prop} {N : Nat} {w0 : World} (hseq : SeqX F (n - 1) P gf lb encs Ar rel X0 S Sp N w0)
    (hAr : ∀ x X W l o o', Ar x X W → W.heap[l]? = some o → o.isCells = false → ¬ X l → Ar x X (W.putObj l o'))
    (hX0 : ∀ k, X0 k → k < w.heap.size) (hb0 : Below w0.heap.size w0 w) (hps : ∀ x, (encs x).size = ps.size)
    (I : List α → (Nat → Prop) → World → Prop) (Ix : Code → List α → (Nat → Prop) → World → Prop) (hI : OwnX w.heap.size I) (hIx : ∀ c, OwnX w.heap.size (Ix c)) (h0 : I [] X0 w) (a₁ : α → Act)
    (hassign : ∀ (l : Nat) (x : α) (W : World) (K : Act → World → Prop), K (a₁ x) W →
      assign.wpIn (F.inRound l) (n - 1 - 1) P (Exit.then K (fun _ _ _ => False)) { tmps := (ps.zip (encs x)).foldl (fun t (p, v) => t.setIfInBounds p v) a.tmps, defers := [] } W)
    (hbody : ∀ (l : Nat) (pre : List α) (X : Nat → Prop) (x : α) (W : World), I pre X W → (∀ k, X k → k < W.heap.size) → Ar x X W → pre.length < N → body.wpIn (F.inRound l) (n - 1 - 1) P (postX I Ix (pre ++ [x]) (less X (rel x)) W) (a₁ x) W)
    (hdone : ∀ (D : Nat) (xs : List α) (X : Nat → Prop) (W : World), w.heap.size ≤ D → S xs → I xs X W → W.heap[D]? = some (.deferred (some [])) → Q .normal { a with defers := { target := .collected D, args := #[] } :: a.defers } W)
    (hstop : ∀ (D : Nat) (c : Code) (pre : List α) (X : Nat → Prop) (W : World), w.heap.size ≤ D → Sp pre → Ix c pre X W → W.heap[D]? = some (.deferred (some [])) → c.wpIn F n P Q { a with defers := { target := .collected D, args := #[] } :: a.defers } W) :
    (Code.rangeFunc g ps assign body).wpIn F n P Q a w := by
  refine wpIn_rangeFunc ?_
  intro fn hfn
  rw [hro]
  obtain ⟨rec, hrec⟩ : ∃ rec : LoopState → Option Code → Loop, rec = fun st pe => { state := st, pending := pe, fn, tmps := a.tmps, params := ps, assign, body, defers := w.heap.size } := ⟨_, rfl⟩
  obtain ⟨W1, hW1⟩ : ∃ W1, (w.alloc (.deferred (some []))).alloc (.loop (rec .ready none)) = W1 := ⟨_, rfl⟩
  have hL1 : W1.heap[w.heap.size + 1]? = some (.loop (rec .ready none)) := by
    rw [← hW1]; have := World.alloc_heap_new (w.alloc (.deferred (some []))) (.loop (rec .ready none)); rwa [World.size_alloc] at this
  have hK1 : W1.heap[w.heap.size]? = some (.deferred (some [])) := by
    rw [← hW1]; exact (Below.heap_alloc _ _ _ (by simp)).trans (World.alloc_heap_new w _)
  have hI1 : I [] X0 W1 := by rw [← hW1]; exact hI.alloc _ (hI.alloc _ h0)
  have hb1 : Below w0.heap.size w0 W1 := by
    rw [← hW1]; exact hb0.trans ((((Below.refl _ w).alloc (Nat.le_refl _) _).alloc (by simp) _).mono hb0.size)
  refine ⟨w.heap.size + 1, [{ target := .collected w.heap.size, args := #[] }], W1, { target := .fn (.func gf) lb, args := #[.func (.yield (w.heap.size + 1)) #[] #[]] }, W1, gf,
    #[.func (.yield (w.heap.size + 1)) #[] #[]] ++ lb, W1, ?_, ?_, ?_, ?_, fun _ => h1, ?_⟩
  · rw [← hW1, hrec]; exact run_enterLoop_outer _ _ _ _ _
  · simp only [resolve, hg]
    simp [go_sem]
  · intro f' hf'; simp [Target.leads] at hf'; subst hf'; exact hFg
  · simp [invoke, go_sem, eg]
  · -- the iterator's contract, at the caller's invariant with the two facts of book-keeping beside it; none of the two blocks is the iterator's
    refine (hseq (w.heap.size + 1)
      (fun pre X W => I pre X W ∧ W.heap[w.heap.size + 1]? = some (.loop (rec .ready none)) ∧ W.heap[w.heap.size]? = some (.deferred (some [])) ∧ ¬ X w.heap.size ∧ ¬ X (w.heap.size + 1) ∧ ∀ k, X k → k < W.heap.size)
      (fun pre X W => ∃ c, Ix c pre X W ∧ W.heap[w.heap.size + 1]? = some (.loop (rec .done (some c))) ∧ W.heap[w.heap.size]? = some (.deferred (some [])) ∧ ¬ X w.heap.size ∧ ¬ X (w.heap.size + 1))
      W1 hb1
      (fun pre X A B row X' hs hg' hr hX => by
        obtain ⟨hi, hl, hk, h2, h3, h4⟩ := hs
        have hsz := hg'.size
        have hlt : w.heap.size + 1 < A.heap.size := (Array.getElem?_eq_some_iff.1 hl).1
        refine ⟨hI pre X A B row X' hi hg' (fun r e => .inl (hr r e)) (fun k hk => (hX k hk).imp id (·.1)), (hg'.block _ hlt (fun e => h3 (hr _ e.symm))).trans hl, (hg'.block _ (by omega) (fun e => h2 (hr _ e.symm))).trans hk, fun h => ?_, fun h => ?_, fun k hk => ?_⟩
        · rcases hX _ h with h | h
          · exact h2 h
          · omega
        · rcases hX _ h with h | h
          · exact h3 h
          · omega
        · rcases hX _ hk with h | h
          · have := h4 _ h; omega
          · exact h.2)
      (fun pre X A B row X' hs hg' hr hX => by
        obtain ⟨c, hi, hl, hk, h2, h3⟩ := hs
        have hlt : w.heap.size + 1 < A.heap.size := (Array.getElem?_eq_some_iff.1 hl).1
        refine ⟨c, hIx c pre X A B row X' hi hg' (fun r e => .inl (hr r e)) (fun k hk => (hX k hk).imp id (·.1)), (hg'.block _ hlt (fun e => h3 (hr _ e.symm))).trans hl, (hg'.block _ (by omega) (fun e => h2 (hr _ e.symm))).trans hk, fun h => ?_, fun h => ?_⟩
        · rcases hX _ h with h | h
          · exact h2 h
          · omega
        · rcases hX _ h with h | h
          · exact h3 h
          · omega)
      ?_ ⟨hI1, hL1, hK1, fun h => by have := hX0 _ h; omega, fun h => by have := hX0 _ h; omega, fun k hk => by have := hX0 _ hk; have := (Array.getElem?_eq_some_iff.1 hL1).1; omega⟩).mono ?_
    · -- one round
      rintro pre X x W ⟨hi, hl, hk, hx0, hx1, hxb⟩ har hlen
      have hlt : w.heap.size + 1 < W.heap.size := (Array.getElem?_eq_some_iff.1 hl).1
      have hy := run_yield (P := P) (args := encs x) hl (by rw [hrec]; exact hps x)
      rw [hrec] at hy
      refine ⟨fn, _, assign, body, hy, roundIn_of_wpIn hfn (hassign _ x W _ ⟨_, run_beginRound hl (by rw [hrec]), ?_⟩)⟩
      have hl2 : (W.putObj (w.heap.size + 1) (.loop { rec .ready none with state := .busy })).heap[w.heap.size + 1]? = some (.loop { rec .ready none with state := .busy }) := World.putObj_heap_same hlt
      have hk2 : (W.putObj (w.heap.size + 1) (.loop { rec .ready none with state := .busy })).heap[w.heap.size]? = some (.deferred (some [])) := (World.putObj_heap_other (by omega)).trans hk
      have hx0' : ¬ less X (rel x) w.heap.size := fun h => hx0 h.1
      have hx1' : ¬ less X (rel x) (w.heap.size + 1) := fun h => hx1 h.1
      have hw2 : KeepsX (less X (rel x)) W (W.putObj (w.heap.size + 1) (.loop { rec .ready none with state := .busy })) := KeepsX.putObj _ _ _ hx1'
      refine wpIn_mono (hbody _ pre X x _ (hI.putObj _ hi (by omega) hl rfl) (fun k hk => by simpa using hxb k hk) (hAr x X W _ _ _ har hl rfl hx1) hlen) ?_
      have fin : ∀ (jump : Option Code) (W3 : World), KeepsOthers (W.putObj (w.heap.size + 1) (.loop { rec .ready none with state := .busy })) W3 →
          (Instr.endRound (w.heap.size + 1) jump).run P W3 = .ok (.bool jump.isNone) (W3.putObj (w.heap.size + 1) (.loop (rec (if jump.isNone then .ready else .done) jump))) ∧
          W3.heap[w.heap.size + 1]? = some (.loop { rec .ready none with state := .busy }) ∧
          (W3.putObj (w.heap.size + 1) (.loop (rec (if jump.isNone then .ready else .done) jump))).heap[w.heap.size + 1]? = some (.loop (rec (if jump.isNone then .ready else .done) jump)) ∧
          (W3.putObj (w.heap.size + 1) (.loop (rec (if jump.isNone then .ready else .done) jump))).heap[w.heap.size]? = some (.deferred (some [])) := fun jump W3 hk3 => by
        have hl3 := hk3.same _ _ hl2 rfl
        have := run_endRound (P := P) jump hl3
        rw [hrec] at this ⊢
        exact ⟨this, by rw [hrec] at hl3; exact hl3, World.putObj_heap_same (Array.getElem?_eq_some_iff.1 hl3).1, (World.putObj_heap_other (by omega)).trans (hk3.same _ _ hk2 rfl)⟩
      rintro e a3 W3 hp
      cases e with
      | normal =>
        obtain ⟨hk3, hkp3, hi3⟩ := hp
        obtain ⟨hr, hl3, hl4, hk4⟩ := fin none W3 hk3
        exact ⟨_, _, hr, .inl ⟨rfl, ⟨hI.putObj _ hi3 (by omega) hl3 rfl, hl4, hk4, hx0', hx1', fun k hk => by have := hxb k hk.1; have := hk3.size; simp only [World.putObj_size] at this ⊢; omega⟩, (hw2.trans hkp3).trans (KeepsX.putObj _ _ _ hx1')⟩⟩
      | ret =>
        obtain ⟨hk3, hkp3, hi3⟩ := hp
        obtain ⟨hr, hl3, hl4, hk4⟩ := fin (some .ret) W3 hk3
        exact ⟨_, _, hr, .inr ⟨rfl, ⟨.ret, (hIx _).putObj _ hi3 (by omega) hl3 rfl, hl4, hk4, hx0', hx1'⟩, (hw2.trans hkp3).trans (KeepsX.putObj _ _ _ hx1')⟩⟩
      | exit id =>
        obtain ⟨hk3, hkp3, hi3⟩ := hp
        obtain ⟨hr, hl3, hl4, hk4⟩ := fin (some (.exit id)) W3 hk3
        exact ⟨_, _, hr, .inr ⟨rfl, ⟨.exit id, (hIx _).putObj _ hi3 (by omega) hl3 rfl, hl4, hk4, hx0', hx1'⟩, (hw2.trans hkp3).trans (KeepsX.putObj _ _ _ hx1')⟩⟩
      | goto t =>
        obtain ⟨hk3, hkp3, hi3⟩ := hp
        obtain ⟨hr, hl3, hl4, hk4⟩ := fin (some (.goto t)) W3 hk3
        exact ⟨_, _, hr, .inr ⟨rfl, ⟨.goto t, (hIx _).putObj _ hi3 (by omega) hl3 rfl, hl4, hk4, hx0', hx1'⟩, (hw2.trans hkp3).trans (KeepsX.putObj _ _ _ hx1')⟩⟩
      | panic ch => exact hp.elim
      | outgrown => exact hp.elim
    · -- behind the iterator
      rintro e W2 ⟨⟨v, rfl⟩, (⟨xs, X, hS, hi, hl, hk, _⟩ | ⟨pre, X, hSp, c, hi, hl, hk, _⟩)⟩
      · exact ⟨none, _, by have := run_endLoop (P := P) hl (by rw [hrec]; simp); rw [hrec] at this; exact this, hdone _ xs X _ (Nat.le_refl _) hS (hI.putObj _ hi (by omega) hl rfl) ((World.putObj_heap_other (by omega)).trans hk)⟩
      · exact ⟨some c, _, by have := run_endLoop (P := P) hl (by rw [hrec]; simp); rw [hrec] at this; exact this, hstop _ c pre X _ (Nat.le_refl _) hSp ((hIx c).putObj _ hi (by omega) hl rfl) ((World.putObj_heap_other (by omega)).trans hk)⟩
end Go.Proofs.Ytegckjbjbodhhaa.RangeX
