import Derived.Test.YtegckjbjbodhhaaWeaveIter
import Derived.RangeFuncFrom
/- The law's 'told': the ways as far as so many, each a row of its own. -/
namespace Go.Proofs.Ytegckjbjbodhhaa.Weave
open Go.RowKit Go.Shelf Go.Proofs.YtegckjbjbodhhaaW.PrintWords Go.Proofs.YtegckjbjbodhhaaW.PrintMore Go.Proofs.Ytegckjbjbodhhaa.RangeX Go.Proofs.Ytegckjbjbodhhaa.Box
attribute [local go_sem] Oper.semAt_some
theorem all_calls (n m : Int) (w : World) : Calls Try.prog 20 #[.int .i64 n, .int .i64 m] w fun e w' => e = .returned (.func (.func 22) #[] #[.pointer (some ⟨w.heap.size, 0, none⟩), .pointer (some ⟨w.heap.size + 1, 0, none⟩)]) ∧ w' = (w.alloc (.cells #[.int .i64 n] 3)).alloc (.cells #[.int .i64 m] 3) := by
  go_enter Try.func20, Try.ntmps20
  go_wp2
  go_ret
  exact ⟨by simp, rfl⟩
theorem seq_not_nil (g : Fn) (t c : Array Value) (w : World) : Sem.run Try.prog (binOp .neq 40 (.func g t c) .nilFunc) w = .ok (.bool true) w := rfl
attribute [local go_sem] seq_not_nil
open Classical in
/-- append(out, x): x's row goes over to out. -/
theorem out_push {F : Fence} {nF : Nat} {ops : Array Oper} {rest : List Oper} {o : Oper} {A : Act} {Q : Exit → Act → World → Prop} {B bo : Nat} {X : Nat → Prop} {W : World} {l : List (List Int)} (x : Item) (v : Value) (hbo : W.heap[bo]? = some (.cells #[v] 23 (0, 0)))
    (hS : Kd.S (Kd.slice 3 (Kd.int .i64)) 26 W B (fun k => ¬ X k) v l) (hx : Ar B x X W) (hXb : ∀ k, X k → k < W.heap.size) (hB : B ≤ W.heap.size) (hbB : bo < B) (hXo : ¬ X bo) (hl : (l.length + 1) * 24 ≤ 140737488355328) (s z : Operand)
    (hgd : o.guard = none) (ho : o.op = .call { callee := .builtin .append, args := #[s, z], argTypes := #[23, 23] }) (hs : A.eval s = v) (hz : A.eval z = .slice (some ⟨W.heap.size, 0, none⟩) 1 1)
    (h : ∀ g c1 w1 v1, v1 = .slice (some ⟨g, 0, none⟩) (l.length + 1) c1 → w1.cell? ⟨bo, 0, none⟩ = some v → w1.frozen? ⟨bo, 0, none⟩ = false →
      ((w1.setCell ⟨bo, 0, none⟩ v1).heap[bo]? = some (.cells #[v1] 23 (0, 0)) ∧ Kd.S (Kd.slice 3 (Kd.int .i64)) 26 (w1.setCell ⟨bo, 0, none⟩ v1) B (fun k => ¬ less X (rel x) k) v1 (l ++ [x.2]) ∧ KeepsOthers W (w1.setCell ⟨bo, 0, none⟩ v1) ∧ KeepsX (less X (rel x)) W (w1.setCell ⟨bo, 0, none⟩ v1) ∧ ∀ N, N ≤ bo → Below N W (w1.setCell ⟨bo, 0, none⟩ v1)) → wpListIn F nF Try.prog ops Q rest (A.put o.dst v1) w1) :
    wpListIn F nF Try.prog ops Q (o :: rest) A (W.alloc (.cells #[x.1] 26)) := by
  obtain ⟨i, hi, hi0, hi1, hi2⟩ : ∃ i, Try.prog.info? 26 = some i ∧ i.zero = some (.slice none 0 0) ∧ i.size = 1 ∧ i.bytes = 24 := ⟨_, rfl, rfl, rfl, rfl⟩
  have hvX : ∀ k, v.ownBlock = some k → ¬ X k := (Kd.S_R hS).1
  have hvT := Kd.S_typed hS
  have hvB := Kd.S_base hS
  have hS' : Kd.S (Kd.slice 3 (Kd.int .i64)) 26 W B (fun k => ¬ less X (rel x) k ∧ ¬ x.1.ownBlock = some k) v l := Kd.S_mono hS (fun k hk => ⟨fun h => hk h.1, fun h => hk (hx.1 k h)⟩)
  obtain ⟨f, hf, hR⟩ := Kd.S_tag hS' l.length (fun k => x.1.ownBlock = some k) (fun k hk h2 => h2.2 hk)
  obtain ⟨h0, inner, hown, hr⟩ := Kd.R_mono hR (ok' := fun k => ¬ less X (rel x) k) (fun _ hk => hk.1)
  have hown' := hown
  rw [List.length_zipIdx] at hown'
  refine wpListIn_append_own_at _ hgd s z 23 ho B 26 i (.slice none 0 0) 1 24 Try.underlying23 hi hi0 hi1 hi2 rfl (by decide) v l.length inner hs (hown'.alloc _) ⟨W.heap.size, 0, none⟩ 1 1 [x.1] hz rfl ?_ ?_ (by simp only [maxLen]; omega) (by omega) (by simp; omega) ?_
  · intro j u hu
    cases j with
    | zero => simp at hu; subst hu; exact (blk_cell (blk_new _ _) 0).trans rfl
    | succ j => simp at hu
  · intro u hu; simp at hu; subst hu; exact (Kd.R_val hx).2
  · intro v1 w1 ho1 hg1 _ hat1
    have hgA : W.grownBy (W.alloc (.cells #[x.1] 26)) v.ownBlock := World.grownBy_alloc W _ _
    have hgW : W.grownBy w1 v.ownBlock := hgA.trans hg1
    have hat : v1.ownBlock = v.ownBlock ∨ ∃ b, v1.ownBlock = some b ∧ W.heap.size ≤ b := by
      rcases hat1 with e | e
      · exact .inl e
      · exact .inr ⟨_, e, by simp⟩
    have hne : some bo ≠ v.ownBlock := fun e => by
      obtain ⟨cs, hc⟩ := hvT bo e.symm
      rw [hbo] at hc; injection hc with hc; injection hc with _ hc
      exact absurd hc (by decide)
    have k3 : w1.heap[bo]? = some (.cells #[v] 23 (0, 0)) := (hgW.block bo (blk_lt hbo) hne).trans hbo
    have hp : Kd.M (Kd.tag f (Kd.slice 3 (Kd.int .i64))) W B (fun k => x.1.ownBlock = some k) (x.2, l.length) [x.1] :=
      show Kd.M (Kd.slice 3 (Kd.int .i64)) W B (fun k => x.1.ownBlock = some k ∧ f k = l.length) x.2 [x.1] from ⟨x.1, rfl, Kd.R_reok rfl hx (fun k hk => ⟨hk, hf k hk⟩)⟩
    have hRn := Kd.R_appended (okp := fun k => x.1.ownBlock = some k) (ok := fun k => ¬ less X (rel x) k) h0 hr hp (fun k hk => ⟨fun h => h.2 hk, fun e => hvX k e.symm (hx.1 k hk)⟩) (fun k hk h => by have := hXb k h.1; omega) (by rw [List.length_zipIdx]; exact ho1) hgW hat
    rw [← Kd.zip_snoc] at hRn
    have hSn : Kd.S (Kd.slice 3 (Kd.int .i64)) 26 w1 B (fun k => ¬ less X (rel x) k) v1 (l ++ [x.2]) := ⟨f, hRn⟩
    obtain ⟨g, c1, hv1, _, _, _⟩ := Kd.S_form hSn (by simp)
    rw [List.length_append, List.length_singleton] at hv1
    refine h g c1 w1 v1 hv1 ((blk_cell k3 0).trans rfl) (blk_frozen k3 0) ⟨?_, ?_, ?_, ?_, ?_⟩
    · simpa using blk_set k3 0 v1
    · exact Kd.S_mono (Kd.S_far (Kd.S_bound hSn) (p := ⟨bo, 0, none⟩) (fun k hk => by have := hk.2.1; show k ≠ bo; omega) v1) (fun k hk => hk.1)
    · refine (KeepsOthers.of_grownBy hgW fun j ob ej hj => ?_).trans (KeepsOthers.setCell _ _ _)
      obtain ⟨cs, hc⟩ := hvT j ej
      rw [hc] at hj; cases hj; rfl
    · refine KeepsX.trans ⟨hgW.size, fun k hk hlt => hgW.block k hlt (fun e => hvX k e.symm hk.1)⟩ ⟨by simp, fun k hk _ => Below.heap_setCell _ _ _ _ (fun e => hXo (by have : k = bo := e; rw [← this]; exact hk.1))⟩
    · intro N hN
      exact (Below.mk hgW.os hgW.tape hgW.output hgW.size (fun k hk => hgW.block k (by omega) (fun e => by have := hvB k e.symm; omega))).setCell (p := ⟨bo, 0, none⟩) hN v1
/-- What is known at every round: B is the heap's size at the range; bm and bo hold most and out. -/
def TI (B bo bm : Nat) (most : Int) (wo : World) (pre : List Item) (X : Nat → Prop) (W : World) : Prop :=
  B ≤ W.heap.size ∧ ¬ X bo ∧ ¬ X bm ∧ bo < B ∧ bm < B ∧ bo ≠ bm ∧ (∀ k, X k → B ≤ k) ∧ (wo.heap.size ≤ bo ∧ Below wo.heap.size wo W) ∧ W.heap[bm]? = some (.cells #[.int .i64 most] 3 (0, 0)) ∧
    ∃ v, W.heap[bo]? = some (.cells #[v] 23 (0, 0)) ∧ Kd.S (Kd.slice 3 (Kd.int .i64)) 26 W B (fun k => ¬ X k) v (pre.map (·.2)) ∧ pre.length ≤ most.toNat
theorem TI.own {B bo bm : Nat} {most : Int} {wo : World} : OwnX B (TI B bo bm most wo) := by
  rintro pre X W W' row X' ⟨h1, h2, h3, h4, h5, h6, h7, h8, h9, v, h10, h11, h12⟩ hg hr hX
  have hrow : ∀ k (o : Obj), W.heap[k]? = some o → o.isCells = true → ¬ X k → some k ≠ row := by
    intro k o ho hc hk e
    rcases hr k e.symm with h | ⟨_, o', ho', hc'⟩
    · exact hk h
    · rw [ho] at ho'; cases ho'; rw [hc] at hc'; cases hc'
  have hsz := hg.size
  refine ⟨by omega, fun h => ?_, fun h => ?_, h4, h5, h6, fun k hk => ?_, ⟨h8.1, h8.2.trans ⟨hg.os, hg.tape, hg.output, hg.size, fun k hk => hg.block k (by have := h8.2.size; omega) (fun e => ?_)⟩⟩, (hg.block bm (blk_lt h9) (hrow _ _ h9 rfl h3)).trans h9, v, (hg.block bo (blk_lt h10) (hrow _ _ h10 rfl h2)).trans h10, ?_, h12⟩
  · rcases hX _ h with h | h
    · exact h2 h
    · omega
  · rcases hX _ h with h | h
    · exact h3 h
    · omega
  · rcases hX _ hk with h | h
    · exact h7 _ h
    · omega
  · rcases hr k e.symm with h | ⟨h, _⟩
    · have := h7 k h; omega
    · omega
  · refine Kd.S_mono (Kd.S_step (Kd.S_bound h11) (fun k hk hlt => hg.block k hlt ?_)) (fun k hk h => ?_)
    · obtain ⟨_, _, cells, hc⟩ := hk.2.2.2
      exact hrow k _ hc rfl hk.1
    · rcases hX _ h with h | h
      · exact hk.1 h
      · have := hk.2.2.1; omega
/-- How it stands when the body has left the range. -/
def TX (B bo bm : Nat) (most : Int) (wo : World) (c : Code) (pre : List Item) (X : Nat → Prop) (W : World) : Prop := c = .exit 0 ∧ TI B bo bm most wo pre.dropLast X W ∧ pre.dropLast.length = most.toNat
theorem TX.own {B bo bm : Nat} {most : Int} {wo : World} (c : Code) : OwnX B (TX B bo bm most wo c) := by
  rintro pre X W W' row X' ⟨h1, h2, h3⟩ hg hr hX
  exact ⟨h1, TI.own _ X W W' row X' h2 hg hr hX, h3⟩
theorem TI.fin {B bo bm D : Nat} {most : Int} {wo W : World} {pre : List Item} {X : Nat → Prop} {o : Obj} (h : TI B bo bm most wo pre X W) (hD : B ≤ D) (hk : W.heap[D]? = some o) (hc : o.isCells = false) (o' : Obj) {v : Value} (hv : W.cell? ⟨bo, 0, none⟩ = some v) :
    Kd.S (Kd.slice 3 (Kd.int .i64)) 26 (W.putObj D o') wo.heap.size (fun _ => True) v (pre.map (·.2)) ∧ Below wo.heap.size wo (W.putObj D o') := by
  have h' := TI.own pre X W (W.putObj D o') (some D) X h (grownBy_putObj' W D o') (fun r e => by cases e; exact .inr ⟨hD, o, hk, hc⟩) (fun k hk => .inl hk)
  obtain ⟨_, _, _, _, _, _, _, _, _, v1, h10, _, _⟩ := h
  obtain ⟨_, _, _, h4, _, _, _, h8, _, v2, h10', h11, _⟩ := h'
  have e1 : v1 = v := by
    have := (blk_cell h10 0).symm.trans hv
    simpa using this
  have e2 : v2 = v1 := by
    have hne : bo ≠ D := by omega
    rw [World.putObj_heap_other hne, h10] at h10'
    simpa using h10'.symm
  subst e2 e1
  exact ⟨Kd.S_lower (Kd.S_mono h11 (fun _ _ => trivial)) (by have := h8.1; omega), h8.2⟩
theorem ways_len : ∀ n m, (ways n m).length ≤ 2 ^ (n + m)
  | 0, 0 => by simp [ways]
  | n + 1, 0 => by
    have := ways_len n 0
    rw [ways, List.length_map, show n + 1 + 0 = (n + 0) + 1 by omega, Nat.pow_succ (m := n + 0)]
    omega
  | 0, m + 1 => by
    have := ways_len 0 m
    rw [ways, List.length_map, show 0 + (m + 1) = 0 + m + 1 by omega, Nat.pow_succ]
    omega
  | n + 1, m + 1 => by
    have h1 := ways_len n (m + 1)
    have h2 := ways_len (n + 1) m
    rw [ways, List.length_append, List.length_map, List.length_map, show n + 1 + (m + 1) = n + (m + 1) + 1 by omega, Nat.pow_succ]
    rw [show n + 1 + m = n + (m + 1) by omega] at h2
    omega
theorem allW_len (n m : Int) : (allW n m).length ≤ 65536 := by
  unfold allW
  split
  · rename_i h
    have hb : 0 ≤ n ∧ 0 ≤ m ∧ n + m ≤ 16 := by simpa [mayB] using h
    refine Nat.le_trans (ways_len _ _) ?_
    exact Nat.le_trans (Nat.pow_le_pow_right (by omega) (show n.toNat + m.toNat ≤ 16 by omega)) (by decide)
  · simp
theorem told_in (n m most : Int) (w : World) : CallsIn Fence.wide 3 Try.prog 9 #[.int .i64 n, .int .i64 m, .int .i64 most] w fun e w' => ∃ v, e = .returned v ∧ Kd.S (Kd.slice 3 (Kd.int .i64)) 26 w' w.heap.size (fun _ => True) v ((allW n m).take most.toNat) ∧ Below w.heap.size w w' := by
  refine callsIn_of_wp_marks Try.func9 rfl trivial ?_ rfl
  simp only [Try.ntmps9, List.size_toArray, List.length_cons, List.length_nil, Nat.reduceAdd, Nat.reduceSub, Array.replicate_succ, Array.replicate_zero, List.push_toArray, List.append_toArray, List.nil_append, List.cons_append]
  gi_wp2_with fail
  refine ⟨trivial, (callsIn_wide.2 (all_calls n m _)).mono ?_⟩
  rintro e w1 ⟨rfl, rfl⟩
  gi_wp2
  have e2 := blk_alloc (blk_alloc (blk_new (w.alloc (.cells #[.int .i64 most] 3)) (.cells #[.slice none 0 0] 23)) (.cells #[.int .i64 n] 3)) (.cells #[.int .i64 m] 3)
  have e1 := blk_alloc (blk_alloc (blk_alloc (blk_new w (.cells #[.int .i64 most] 3)) (.cells #[.slice none 0 0] 23)) (.cells #[.int .i64 n] 3)) (.cells #[.int .i64 m] 3)
  have e3 := blk_alloc (blk_new ((w.alloc (.cells #[.int .i64 most] 3)).alloc (.cells #[.slice none 0 0] 23)) (.cells #[.int .i64 n] 3)) (.cells #[.int .i64 m] 3)
  have e4 := blk_new (((w.alloc (.cells #[.int .i64 most] 3)).alloc (.cells #[.slice none 0 0] 23)).alloc (.cells #[.int .i64 n] 3)) (.cells #[.int .i64 m] 3)
  have hB := below_alloc (below_alloc (below_alloc (below_alloc (Below.refl _ w) (.cells #[.int .i64 most] 3)) (.cells #[.slice none 0 0] 23)) (.cells #[.int .i64 n] 3)) (.cells #[.int .i64 m] 3)
  have hsz : ((((w.alloc (.cells #[.int .i64 most] 3)).alloc (.cells #[.slice none 0 0] 23)).alloc (.cells #[.int .i64 n] 3)).alloc (.cells #[.int .i64 m] 3)).heap.size = w.heap.size + 4 := by simp only [World.size_alloc]
  simp only [World.size_alloc] at e2 e3 e4
  generalize hW : (((w.alloc (.cells #[.int .i64 most] 3)).alloc (.cells #[.slice none 0 0] 23)).alloc (.cells #[.int .i64 n] 3)).alloc (.cells #[.int .i64 m] 3) = wB at *
  clear hW
  have hseq := iter_calls n m (w.heap.size + 1 + 1) (w.heap.size + 1 + 1 + 1) 2 wB ((blk_cell e3 0).trans rfl) ((blk_cell e4 0).trans rfl)
  have hTI : TI wB.heap.size (w.heap.size + 1) w.heap.size most w [] (fun _ => False) wB := ⟨Nat.le_refl _, id, id, by omega, by omega, by omega, fun _ h => h.elim, ⟨by omega, hB⟩, e1, _, e2, Kd.S_nil _ _ _ _ _, Nat.zero_le _⟩
  refine wpIn_rangeX rfl (by decide) (gf := 22) (lb := #[.pointer (some ⟨w.heap.size + 1 + 1, 0, none⟩), .pointer (some ⟨w.heap.size + 1 + 1 + 1, 0, none⟩)]) rfl trivial (enters_of Try.func22 (by kernel_rfl) rfl) hseq (ar_put _) (fun k h => h.elim) (Below.refl _ _) (fun _ => rfl)
    (TI wB.heap.size (w.heap.size + 1) w.heap.size most w) (TX wB.heap.size (w.heap.size + 1) w.heap.size most w) TI.own TX.own hTI
    (fun x => { tmps := #[.int .i64 n, .int .i64 m, .int .i64 most, undef, undef, .pointer (some ⟨w.heap.size, 0, none⟩), .slice none 0 0, .pointer (some ⟨w.heap.size + 1, 0, none⟩), .func (.func 22) #[] #[.pointer (some ⟨w.heap.size + 1 + 1, 0, none⟩), .pointer (some ⟨w.heap.size + 1 + 1 + 1, 0, none⟩)], x.1, .int .i64 n, .int .i64 m, .func (.func 22) #[] #[.pointer (some ⟨w.heap.size + 1 + 1, 0, none⟩), .pointer (some ⟨w.heap.size + 1 + 1 + 1, 0, none⟩)], .func (.func 22) #[] #[.pointer (some ⟨w.heap.size + 1 + 1, 0, none⟩), .pointer (some ⟨w.heap.size + 1 + 1 + 1, 0, none⟩)], .bool true, .func (.func 22) #[] #[.pointer (some ⟨w.heap.size + 1 + 1, 0, none⟩), .pointer (some ⟨w.heap.size + 1 + 1 + 1, 0, none⟩)], x.1, undef, undef, undef, undef, undef, undef, undef, undef, undef], defers := [] }) ?assign ?body ?done ?stop
  case assign =>
    intro l x W K hK
    simp only [enc1]
    gi_wp2
    exact hK
  case body =>
    rintro l pre X ⟨xv, xl⟩ W hI hXb hx hlen
    have hx' : Kd.R (Kd.int .i64) 3 W wB.heap.size X xv xl := hx
    obtain ⟨A0, c0, rfl⟩ := Kd.R_slice hx'
    clear hx'
    have HI := Aside0.mk hI
    obtain ⟨h1, h2, h3, h4, h5, h6, h7, h8, h9, v, h10, h11, h12⟩ := hI
    obtain ⟨A, c, rfl⟩ := Kd.S_slice h11
    have hc1 : W.cell? ⟨w.heap.size + 1, 0, none⟩ = some (.slice A (pre.map (·.2)).length c) := (blk_cell h10 0).trans rfl
    have hc2 : W.cell? ⟨w.heap.size, 0, none⟩ = some (.int .i64 most) := (blk_cell h9 0).trans rfl
    rw [List.length_map] at hc1 h10 h11
    have hlb := Nat.lt_of_lt_of_le hlen (allW_len n m)
    have HX := Aside0.mk hx
    have HXB := Aside0.mk hXb
    have H10 := Aside0.mk h10
    have H11 := Aside0.mk h11
    clear hx hXb h10 h11 h7 h8 h9 hlen hTI hseq
    by_cases hge : most ≤ (pre.length : Int)
    · gi_wp2
      refine ⟨KeepsOthers.refl _, KeepsX.refl _ _, rfl, ?_, ?_⟩
      · rw [List.dropLast_concat]
        exact TI.own _ X W W none _ HI.out ⟨rfl, rfl, rfl, Nat.le_refl _, fun _ _ _ => rfl⟩ (fun r e => by cases e) (fun k hk => .inl hk.1)
      · rw [List.dropLast_concat]
        omega
    · gi_wp2_with (gi_at_builtin; refine out_push (.slice A0 xl.length c0, xl) _ H10.out H11.out HX.out HXB.out h1 h4 h2 (by simp only [List.length_map]; omega) _ _ rfl rfl rfl rfl ?_; rintro g c1 w1 _ rfl hcc hff hx; have HP := Aside0.mk hx; clear hx)
      have hP := HP.out
      rw [List.length_map] at hP
      obtain ⟨p1, p2, p3, p4, p5⟩ := hP
      obtain ⟨i1, i2, i3, i4, i5, i6, i7, i8, i9, _⟩ := HI.out
      rw [hsz] at i1 i4 i5 i7 p2
      refine ⟨p3, p4, by have := p4.1; omega, fun h => i2 h.1, fun h => i3 h.1, i4, i5, i6, fun k hk => i7 k hk.1, ⟨i8.1, i8.2.trans (p5 _ i8.1)⟩, ((p5 _ (Nat.le_refl _)).block _ (by omega)).trans i9, _, p1, ?_, ?_⟩
      · rw [List.map_append]
        exact p2
      · rw [List.length_append, List.length_singleton]
        omega
  case done =>
    rintro D xs X W hD hxs hI hK
    have HI := Aside0.mk hI
    obtain ⟨h1, h2, h3, h4, h5, h6, h7, h8, h9, v, h10, h11, h12⟩ := hI
    have hc1 : W.cell? ⟨w.heap.size + 1, 0, none⟩ = some v := (blk_cell h10 0).trans rfl
    have hfin := HI.out.fin hD hK rfl (.deferred none) hc1
    rw [hxs, show allW n m = (allW n m).take most.toNat from (List.take_of_length_le (by rw [← hxs, List.length_map]; exact h12)).symm] at hfin
    have HF := Aside0.mk hfin
    clear hfin h7 h8 h10 h11 hTI hseq hxs
    gi_wp2
    refine ⟨by simp, .inl ⟨_, _, rfl, run_takeDeferred hK, ?_⟩⟩
    exact ⟨_, results_tmp rfl _ _ _, v, rfl, HF.out⟩
  case stop =>
    rintro D c pre X W hD ⟨r, hpre⟩ ⟨rfl, hI, h13⟩ hK
    have HI := Aside0.mk hI
    obtain ⟨h1, h2, h3, h4, h5, h6, h7, h8, h9, v, h10, h11, h12⟩ := hI
    have hc1 : W.cell? ⟨w.heap.size + 1, 0, none⟩ = some v := (blk_cell h10 0).trans rfl
    have hfin := HI.out.fin hD hK rfl (.deferred none) hc1
    have htk : (allW n m).take most.toNat = pre.dropLast.map (·.2) := by
      rw [← hpre, ← h13, List.dropLast_eq_take, List.length_take, List.map_take, List.take_append_of_le_length (by rw [List.length_map]; omega)]
      congr 1
      omega
    rw [← htk] at hfin
    have HF := Aside0.mk hfin
    clear hfin h7 h8 h10 h11 hTI hseq hpre htk
    gi_wp2
    refine ⟨by simp, .inl ⟨_, _, rfl, run_takeDeferred hK, ?_⟩⟩
    exact ⟨_, results_tmp rfl _ _ _, v, rfl, HF.out⟩
theorem told_calls (n m most : Int) (w : World) : Calls Try.prog 9 #[.int .i64 n, .int .i64 m, .int .i64 most] w fun e w' => ∃ v, e = .returned v ∧ Kd.S (Kd.slice 3 (Kd.int .i64)) 26 w' w.heap.size (fun _ => True) v ((allW n m).take most.toNat) ∧ Below w.heap.size w w' := callsIn_wide.1 (told_in n m most w)
end Go.Proofs.Ytegckjbjbodhhaa.Weave
