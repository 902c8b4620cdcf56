import Derived.Test.YtegckjbjbodhhaaWeaveGo
import Derived.Test.YtegckjbjbodhhaaPWx10
/- Package weave: the iterator, whole. -/
namespace Go.Proofs.Ytegckjbjbodhhaa.Weave
open Go.RowKit Go.Shelf Go.Proofs.YtegckjbjbodhhaaW.PrintWords Go.Proofs.YtegckjbjbodhhaaW.PrintMore Go.Proofs.Ytegckjbjbodhhaa.RangeX Go.Proofs.Ytegckjbjbodhhaa.Box
attribute [local go_sem] Oper.semAt_some
@[local go_sem] theorem run_store_funcv {P : Program} {w : World} {a : Addr} {m : Mode} (g : Fn) (t c : Array Value) : (store a (.func g t c) m).run P w = stored P w a (.func g t c) m := run_store P w a _ m rfl
def mayB (n m : Int) : Bool := decide (0 ≤ n ∧ 0 ≤ m ∧ n + m ≤ 16)
theorem may_f (n m : Int) : PW.weave_may.f n m = some (mayB n m) := by
  unfold PW.weave_may.f mayB
  by_cases h1 : n ≥ 0
  · by_cases h2 : m ≥ 0
    · by_cases h3 : n ≤ 16
      · rw [if_pos h1, if_pos h2, if_pos h3, show wrap64 (16 - n) = 16 - n by unfold wrap64; omega]
        congr 1
        rw [decide_eq_decide]
        omega
      · rw [if_pos h1, if_pos h2, if_neg h3, decide_eq_false (by omega)]
    · rw [if_pos h1, if_neg h2, decide_eq_false (by omega)]
  · rw [if_neg h1, decide_eq_false (by omega)]
/-- What is handed over of any two numbers. -/
def allW (n m : Int) : List (List Int) := if mayB n m = true then ways n.toNat m.toNat else []
/-- The closure, as it lies in its box. -/
def onF (gy gw go : Nat) : Value := .func (.func 23) #[] #[.pointer (some ⟨gy, 0, none⟩), .pointer (some ⟨gw, 0, none⟩), .pointer (some ⟨go, 0, none⟩)]
theorem boxes_new (w : World) (gy b c : Nat) :
    ((w.alloc (.cells #[.slice (some ⟨b, 0, none⟩) 0 c] 26)).alloc (.cells #[(.func (.func 23) #[] #[.pointer (some ⟨gy, 0, none⟩), .pointer (some ⟨w.heap.size, 0, none⟩), .pointer (some ⟨w.heap.size + 1, 0, none⟩)])] 29)).cell? ⟨w.heap.size + 1, 0, none⟩ = some (.func (.func 23) #[] #[.pointer (some ⟨gy, 0, none⟩), .pointer (some ⟨w.heap.size, 0, none⟩), .pointer (some ⟨w.heap.size + 1, 0, none⟩)]) := by
  have h := blk_new (w.alloc (.cells #[.slice (some ⟨b, 0, none⟩) 0 c] 26)) (.cells #[(.func (.func 23) #[] #[.pointer (some ⟨gy, 0, none⟩), .pointer (some ⟨w.heap.size, 0, none⟩), .pointer (some ⟨w.heap.size + 1, 0, none⟩)])] 29)
  rw [World.size_alloc] at h
  exact (blk_cell h 0).trans rfl
theorem boxes_below {W w1 w2 : World} (hb : Below W.heap.size W w1) (hg : w1.grownBy w2 none) (v : Value) (gy : Nat) :
    Below W.heap.size W ((w2.alloc (.cells #[v] 26)).alloc (.cells #[(.func (.func 23) #[] #[.pointer (some ⟨gy, 0, none⟩), .pointer (some ⟨w2.heap.size, 0, none⟩), .pointer (some ⟨w2.heap.size + 1, 0, none⟩)])] 29)) := by
  have h2 : Below W.heap.size W w2 := hb.trans ⟨hg.os, hg.tape, hg.output, hg.size, fun k hk => hg.block k (by have := hb.size; omega) (by simp)⟩
  exact below_alloc (below_alloc h2 _) _
theorem ab_new {J : List Item → (Nat → Prop) → World → Prop} (hJ : AbX J) {pre : List Item} {X : Nat → Prop} {W W1 : World} (h : J pre X W) (hb : Below W.heap.size W W1) : J pre (fun k => X k ∨ (W.heap.size ≤ k ∧ k < W1.heap.size)) W1 :=
  hJ pre X W W1 none _ h ⟨hb.os, hb.tape, hb.output, hb.size, fun k hk _ => hb.block k hk⟩ (fun r e => by cases e) (fun _ hk => hk)
theorem boxes_inv {B l c : Nat} {W w1 w2 : World} (hB : B ≤ W.heap.size) (hs : W.heap.size + 1 ≤ w1.heap.size) (hy : w1.heap[W.heap.size]? = some (.cells #[.func (.yield l) #[] #[]] 37 (0, 0))) (hg : w1.grownBy w2 none) (ho : w2.ownsRow w1.heap.size 3 1 (.slice (some ⟨w1.heap.size, 0, none⟩) 0 c) 0 []) (X : Nat → Prop) :
    Inv B l W.heap.size w2.heap.size (w2.heap.size + 1) [] (fun k => X k ∨ (W.heap.size ≤ k ∧ k < ((w2.alloc (.cells #[.slice (some ⟨w1.heap.size, 0, none⟩) 0 c] 26)).alloc (.cells #[(.func (.func 23) #[] #[.pointer (some ⟨W.heap.size, 0, none⟩), .pointer (some ⟨w2.heap.size, 0, none⟩), .pointer (some ⟨w2.heap.size + 1, 0, none⟩)])] 29)).heap.size)) ((w2.alloc (.cells #[.slice (some ⟨w1.heap.size, 0, none⟩) 0 c] 26)).alloc (.cells #[(.func (.func 23) #[] #[.pointer (some ⟨W.heap.size, 0, none⟩), .pointer (some ⟨w2.heap.size, 0, none⟩), .pointer (some ⟨w2.heap.size + 1, 0, none⟩)])] 29)) := by
  have h12 : Below w1.heap.size w1 w2 := ⟨hg.os, hg.tape, hg.output, hg.size, fun k hk => hg.block k hk (by simp)⟩
  have hs2 := hg.size
  have hy2 := blk_alloc (blk_alloc (blk_below hy h12) (.cells #[.slice (some ⟨w1.heap.size, 0, none⟩) 0 c] 26)) (.cells #[(.func (.func 23) #[] #[.pointer (some ⟨W.heap.size, 0, none⟩), .pointer (some ⟨w2.heap.size, 0, none⟩), .pointer (some ⟨w2.heap.size + 1, 0, none⟩)])] 29)
  have hw2 := blk_alloc (blk_new w2 (.cells #[.slice (some ⟨w1.heap.size, 0, none⟩) 0 c] 26)) (.cells #[(.func (.func 23) #[] #[.pointer (some ⟨W.heap.size, 0, none⟩), .pointer (some ⟨w2.heap.size, 0, none⟩), .pointer (some ⟨w2.heap.size + 1, 0, none⟩)])] 29)
  have ho2 := blk_new (w2.alloc (.cells #[.slice (some ⟨w1.heap.size, 0, none⟩) 0 c] 26)) (.cells #[(.func (.func 23) #[] #[.pointer (some ⟨W.heap.size, 0, none⟩), .pointer (some ⟨w2.heap.size, 0, none⟩), .pointer (some ⟨w2.heap.size + 1, 0, none⟩)])] 29)
  rw [World.size_alloc] at ho2
  have hR : Kd.R (Kd.int .i64) 3 w2 w1.heap.size (fun _ => True) (.slice (some ⟨w1.heap.size, 0, none⟩) 0 c) [] := ⟨fun _ _ => trivial, [], ho, Reps.none _ _⟩
  refine ⟨hB, .inr ⟨Nat.le_refl _, by simp; omega⟩, .inr ⟨by omega, by simp only [World.size_alloc]; omega⟩, .inr ⟨by omega, by simp only [World.size_alloc]; omega⟩, hy2, ho2, _, hw2, ?_⟩
  have h1 := Kd.R_mono (Kd.R_bound hR) (ok' := fun k => W.heap.size ≤ k) (fun k hk => by have := hk.2.1; omega)
  exact Kd.R_lower (Kd.R_mono (Kd.R_bound (Kd.R_alloc (Kd.R_alloc h1 _) _)) (fun k hk => .inr ⟨hk.1, hk.2.2.1⟩)) (by omega)
theorem iter_calls (n m : Int) (gn gm k : Nat) (w : World) (hn : w.cell? ⟨gn, 0, none⟩ = some (.int .i64 n)) (hm : w.cell? ⟨gm, 0, none⟩ = some (.int .i64 m)) :
    SeqX Fence.wide k Try.prog 22 #[.pointer (some ⟨gn, 0, none⟩), .pointer (some ⟨gm, 0, none⟩)] enc1 (Ar w.heap.size) rel (fun _ => False) (fun xs => xs.map (·.2) = allW n m) (fun pre => ∃ r, pre.map (·.2) ++ r = allW n m) (allW n m).length w := by
  intro l J Jx W hb hJ hJx hY h0
  have hc1 := pw_cell_below hb hn
  have hc2 := pw_cell_below hb hm
  have hBW := hb.size
  have HY := Aside0.mk hY
  have HJ := Aside0.mk hJ
  have HJX := Aside0.mk hJx
  have HJ0 := Aside0.mk h0
  generalize w.heap.size = B at *
  clear hY hJ hJx h0 hn hm hb
  refine callsIn_of_wp Try.func22 rfl trivial ?_ rfl
  simp only [Try.ntmps22, List.size_toArray, List.length_cons, List.length_nil, Nat.reduceAdd, Nat.reduceSub, Array.replicate_succ, Array.replicate_zero, List.push_toArray, List.append_toArray, List.nil_append, List.cons_append]
  have hb0 : Below W.heap.size W (W.alloc (.cells #[.func (.yield l) #[] #[]] 37)) := below_alloc (Below.refl _ _) _
  have hA1 := pw_cell_below hb0 hc1
  have hA2 := pw_cell_below hb0 hc2
  gi_wp2_with fail
  refine ⟨trivial, fun h => (nomatch h), (callsIn_wide.2 (PW.weave_may.calls n m _ _ (may_f n m))).mono ?_⟩
  rintro e w1 ⟨rfl, hd⟩
  have hb1 := hb0.trans (hd.below.mono hb0.size)
  have hy1 := blk_below (blk_new W (.cells #[.func (.yield l) #[] #[]] 37)) hd.below
  have hs1 : W.heap.size + 1 ≤ w1.heap.size := by have := hd.below.size; simpa using this
  have hA1 := pw_cell_below hb1 hc1
  have hA2 := pw_cell_below hb1 hc2
  have HB1 := Aside0.mk hb1
  have HY1 := Aside0.mk hy1
  clear hd hb0 hb1 hy1
  cases hmay : mayB n m with
  | false =>
    gi_wp2
    refine bodyPost_ret (results_none rfl _ _ _) rfl ?_
    exact ⟨⟨_, rfl⟩, .inl ⟨[], _, by simp [allW, hmay], ab_new HJ.out HJ0.out HB1.out⟩⟩
  | true =>
    have hmb : 0 ≤ n ∧ 0 ≤ m ∧ n + m ≤ 16 := by simpa [mayB] using hmay
    obtain ⟨i, hi, hi0, hi1, hi2⟩ : ∃ i, Try.prog.info? 3 = some i ∧ i.zero = some (.int .i64 0) ∧ i.size = 1 ∧ i.bytes = 8 := ⟨_, rfl, rfl, rfl, rfl⟩
    gi_wp2_with (gi_at_make; refine wpListIn_make_own _ rfl _ _ 26 rfl w1.heap.size 3 i (.int .i64 0) 1 Try.underlying26 hi hi0 hi1 .i64 .i64 (n + m) (n + m).toNat rfl rfl (by omega) (by rw [hi2]; omega) (by simp only [maxLen]; omega) (Nat.le_refl _) ?_; intro w2 hw1 hw2; have HW1 := Aside0.mk hw1; have HW2 := Aside0.mk hw2; have hz := boxes_new w2 W.heap.size w1.heap.size (n + m).toNat; have hb2 := boxes_below HB1.out hw2 (.slice (some ⟨w1.heap.size, 0, none⟩) 0 (n + m).toNat) W.heap.size; have hA1 := pw_cell_below hb2 hc1; have hA2 := pw_cell_below hb2 hc2; have HB2 := Aside0.mk hb2; clear hb2 hw1 hw2)
    have hI := boxes_inv hBW hs1 HY1.out HW2.out HW1.out (fun _ => False)
    have hJ1 := ab_new HJ.out HJ0.out HB2.out
    obtain ⟨n', rfl⟩ := Int.eq_ofNat_of_zero_le hmb.1
    obtain ⟨m', rfl⟩ := Int.eq_ofNat_of_zero_le hmb.2.1
    have hall : allW n' m' = ways n' m' := by simp [allW, hmay]
    have hYo : YieldOk B l (allW n' m').length J Jx := fun m pre X x W1 h1 h2 h3 => yieldAny rfl m (HY.out pre X x W1 h1 h2 h3)
    refine ⟨trivial, fun h => (nomatch h), (on_calls B l _ _ _ (allW n' m').length J Jx HJ.out HJX.out hYo (n' + m') n' m' rfl (k - 1) [] [] _ _ hJ1 hI (by rw [hall]; simp) (by simp; omega)).mono ?_⟩
    clear hI hJ1
    rintro e w4 (⟨rfl, X', its, h1, h2, _⟩ | ⟨rfl, X', its, r, h1, h2, _⟩)
    · gi_wp2
      go_end0
      exact ⟨⟨_, rfl⟩, .inl ⟨its, _, by rw [h1, hall]; simp, h2⟩⟩
    · gi_wp2
      go_end0
      exact ⟨⟨_, rfl⟩, .inr ⟨its, _, ⟨r, by rw [h1, hall]; simp⟩, h2⟩⟩
end Go.Proofs.Ytegckjbjbodhhaa.Weave
