import Derived.Test.YtbpmmabdjabfcaaScriptRef
import Derived.Test.YtbpmmabdjabfcaaTableRefParse
/- Package portholeref25: Parse tells the job and the error of the plain law. Written by wip/scriptrefparse.py. -/
namespace Go.Proofs.Ytbpmmabdjabfcaa.Script
open Go.RowKit Go.Proofs.YtbpmmabdjabfcaaW.PrintWords Go.Proofs.YtbpmmabdjabfcaaW.PrintLast Go.Proofs.YtbpmmabdjabfcaaW.PrintMore Go.Proofs.Ytbpmmabdjabfcaa.Box Go.Proofs.Ytbpmmabdjabfcaa.PT Go.Proofs.Ytbpmmabdjabfcaa.Table
set_option linter.unusedSimpArgs false
set_option linter.unusedVariables false
/-- What stands all through Parse: the result's cells, the job in the making, the box. -/
structure RJ (w W : World) (g b : Nat) (ws : List Int) (p : Pl) (u0 u1 u2 u3 u4 u5 u6 u7 : Value) : Prop where
  res : W.heap[w.heap.size]? = some (.cells #[.slice none 0 0, .slice none 0 0, .int .i64 0, .slice none 0 0, .int .i64 0, .slice none 0 0, .slice none 0 0, .slice none 0 0] 48 (0, 0))
  job : W.heap[b]? = some (.cells #[u0, u1, u2, u3, u4, u5, u6, u7] 48 (0, 0))
  rb : IsRb w W g ws p.a p.e
  bel : Below w.heap.size w W
  lt1 : w.heap.size < g
  lt2 : g < b
section
variable {w W W' : World} {g b : Nat} {ws : List Int} {p p' : Pl} {u0 u1 u2 u3 u4 u5 u6 u7 : Value}
theorem RJ.size (h : RJ w W g b ws p u0 u1 u2 u3 u4 u5 u6 u7) : b + 1 ≤ W.heap.size := blk_lt h.job
theorem RJ.to (h : RJ w W g b ws p u0 u1 u2 u3 u4 u5 u6 u7) {n : Nat} (hb : Below n W W') (hl : b + 1 ≤ n) (hn : n ≤ W.heap.size) : RJ w W' g b ws p u0 u1 u2 u3 u4 u5 u6 u7 := by
  have l1 := h.lt1
  have l2 := h.lt2
  obtain ⟨A, c, hx, r⟩ := h.rb
  exact ⟨(hb.block _ (by omega)).trans h.res, (hb.block _ (by omega)).trans h.job, ⟨A, c, (hb.block _ (by omega)).trans hx, r⟩, h.bel.trans (hb.mono (by omega)), l1, l2⟩
theorem RJ.drew (h : RJ w W g b ws p u0 u1 u2 u3 u4 u5 u6 u7) : RJ w W.drew g b ws p u0 u1 u2 u3 u4 u5 u6 u7 := h.to (below_drew1 (Below.refl W.heap.size W)) h.size (Nat.le_refl _)
theorem RJ.step (h : RJ w W g b ws p u0 u1 u2 u3 u4 u5 u6 u7) (hr : Rb w W g ws p'.a p'.e W') : RJ w W' g b ws p' u0 u1 u2 u3 u4 u5 u6 u7 :=
  ⟨hr.keep.blk h.res (Nat.ne_of_lt h.lt1) (by simp), hr.keep.blk h.job (Nat.ne_of_gt h.lt2) (by simp), hr.rb, hr.bel, h.lt1, h.lt2⟩
theorem RJ.rbx (h : RJ w W g b ws p u0 u1 u2 u3 u4 u5 u6 u7) : Rb w W g ws p.a p.e W := ⟨h.rb, h.bel, KeepBut.refl _ _ _⟩
theorem RJ.ce (h : RJ w W g b ws p u0 u1 u2 u3 u4 u5 u6 u7) : W.cell? ⟨g, 2, none⟩ = some (.int .i64 p.e) := h.rb.c2.1
theorem RJ.fe (h : RJ w W g b ws p u0 u1 u2 u3 u4 u5 u6 u7) : W.frozen? ⟨g, 2, none⟩ = false := h.rb.c2.2
theorem RJ.ca (h : RJ w W g b ws p u0 u1 u2 u3 u4 u5 u6 u7) : W.cell? ⟨g, 1, none⟩ = some (.int .i64 (p.a : Int)) := by
  obtain ⟨A, c, hg, _⟩ := h.rb
  exact (blk_cell hg 1).trans rfl
theorem RJ.fa (h : RJ w W g b ws p u0 u1 u2 u3 u4 u5 u6 u7) : W.frozen? ⟨g, 1, none⟩ = false := by
  obtain ⟨A, c, hg, _⟩ := h.rb
  exact blk_frozen hg 1
theorem RJ.setE (h : RJ w W g b ws p u0 u1 u2 u3 u4 u5 u6 u7) (e : Int) : RJ w (W.setCell ⟨g, 2, none⟩ (.int .i64 e)) g b ws ⟨p.a, e⟩ u0 u1 u2 u3 u4 u5 u6 u7 :=
  ⟨blk_far h.res (Nat.ne_of_lt h.lt1) _, blk_far h.job (Nat.ne_of_gt h.lt2) _, h.rb.setE e, below_set h.bel (Nat.le_of_lt h.lt1), h.lt1, h.lt2⟩
theorem RJ.setA (h : RJ w W g b ws p u0 u1 u2 u3 u4 u5 u6 u7) (n : Nat) : RJ w (W.setCell ⟨g, 1, none⟩ (.int .i64 (n : Int))) g b ws ⟨n, p.e⟩ u0 u1 u2 u3 u4 u5 u6 u7 :=
  ⟨blk_far h.res (Nat.ne_of_lt h.lt1) _, blk_far h.job (Nat.ne_of_gt h.lt2) _, h.rb.setA n, below_set h.bel (Nat.le_of_lt h.lt1), h.lt1, h.lt2⟩
theorem RJ.farb (h : RJ w W g b ws p u0 u1 u2 u3 u4 u5 u6 u7) (j : Nat) (v : Value) : IsRb w (W.setCell ⟨b, j, none⟩ v) g ws p.a p.e := by
  obtain ⟨A, c, hx, r⟩ := h.rb
  exact ⟨A, c, blk_far hx (Nat.ne_of_lt h.lt2) v, r⟩
theorem RJ.s0 (h : RJ w W g b ws p u0 u1 u2 u3 u4 u5 u6 u7) (v : Value) : RJ w (W.setCell ⟨b, 0, none⟩ v) g b ws p v u1 u2 u3 u4 u5 u6 u7 := ⟨blk_far h.res (Nat.ne_of_lt (Nat.lt_trans h.lt1 h.lt2)) v, (blk_set h.job 0 v).trans rfl, h.farb 0 v, below_set h.bel (Nat.le_of_lt (Nat.lt_trans h.lt1 h.lt2)), h.lt1, h.lt2⟩
theorem RJ.c0 (h : RJ w W g b ws p u0 u1 u2 u3 u4 u5 u6 u7) : W.cell? ⟨b, 0, none⟩ = some u0 := (blk_cell h.job 0).trans rfl
theorem RJ.f0 (h : RJ w W g b ws p u0 u1 u2 u3 u4 u5 u6 u7) : W.frozen? ⟨b, 0, none⟩ = false := blk_frozen h.job 0
theorem RJ.s1 (h : RJ w W g b ws p u0 u1 u2 u3 u4 u5 u6 u7) (v : Value) : RJ w (W.setCell ⟨b, 1, none⟩ v) g b ws p u0 v u2 u3 u4 u5 u6 u7 := ⟨blk_far h.res (Nat.ne_of_lt (Nat.lt_trans h.lt1 h.lt2)) v, (blk_set h.job 1 v).trans rfl, h.farb 1 v, below_set h.bel (Nat.le_of_lt (Nat.lt_trans h.lt1 h.lt2)), h.lt1, h.lt2⟩
theorem RJ.c1 (h : RJ w W g b ws p u0 u1 u2 u3 u4 u5 u6 u7) : W.cell? ⟨b, 1, none⟩ = some u1 := (blk_cell h.job 1).trans rfl
theorem RJ.f1 (h : RJ w W g b ws p u0 u1 u2 u3 u4 u5 u6 u7) : W.frozen? ⟨b, 1, none⟩ = false := blk_frozen h.job 1
theorem RJ.s2 (h : RJ w W g b ws p u0 u1 u2 u3 u4 u5 u6 u7) (v : Value) : RJ w (W.setCell ⟨b, 2, none⟩ v) g b ws p u0 u1 v u3 u4 u5 u6 u7 := ⟨blk_far h.res (Nat.ne_of_lt (Nat.lt_trans h.lt1 h.lt2)) v, (blk_set h.job 2 v).trans rfl, h.farb 2 v, below_set h.bel (Nat.le_of_lt (Nat.lt_trans h.lt1 h.lt2)), h.lt1, h.lt2⟩
theorem RJ.c2 (h : RJ w W g b ws p u0 u1 u2 u3 u4 u5 u6 u7) : W.cell? ⟨b, 2, none⟩ = some u2 := (blk_cell h.job 2).trans rfl
theorem RJ.f2 (h : RJ w W g b ws p u0 u1 u2 u3 u4 u5 u6 u7) : W.frozen? ⟨b, 2, none⟩ = false := blk_frozen h.job 2
theorem RJ.s3 (h : RJ w W g b ws p u0 u1 u2 u3 u4 u5 u6 u7) (v : Value) : RJ w (W.setCell ⟨b, 3, none⟩ v) g b ws p u0 u1 u2 v u4 u5 u6 u7 := ⟨blk_far h.res (Nat.ne_of_lt (Nat.lt_trans h.lt1 h.lt2)) v, (blk_set h.job 3 v).trans rfl, h.farb 3 v, below_set h.bel (Nat.le_of_lt (Nat.lt_trans h.lt1 h.lt2)), h.lt1, h.lt2⟩
theorem RJ.c3 (h : RJ w W g b ws p u0 u1 u2 u3 u4 u5 u6 u7) : W.cell? ⟨b, 3, none⟩ = some u3 := (blk_cell h.job 3).trans rfl
theorem RJ.f3 (h : RJ w W g b ws p u0 u1 u2 u3 u4 u5 u6 u7) : W.frozen? ⟨b, 3, none⟩ = false := blk_frozen h.job 3
theorem RJ.s4 (h : RJ w W g b ws p u0 u1 u2 u3 u4 u5 u6 u7) (v : Value) : RJ w (W.setCell ⟨b, 4, none⟩ v) g b ws p u0 u1 u2 u3 v u5 u6 u7 := ⟨blk_far h.res (Nat.ne_of_lt (Nat.lt_trans h.lt1 h.lt2)) v, (blk_set h.job 4 v).trans rfl, h.farb 4 v, below_set h.bel (Nat.le_of_lt (Nat.lt_trans h.lt1 h.lt2)), h.lt1, h.lt2⟩
theorem RJ.c4 (h : RJ w W g b ws p u0 u1 u2 u3 u4 u5 u6 u7) : W.cell? ⟨b, 4, none⟩ = some u4 := (blk_cell h.job 4).trans rfl
theorem RJ.f4 (h : RJ w W g b ws p u0 u1 u2 u3 u4 u5 u6 u7) : W.frozen? ⟨b, 4, none⟩ = false := blk_frozen h.job 4
theorem RJ.s5 (h : RJ w W g b ws p u0 u1 u2 u3 u4 u5 u6 u7) (v : Value) : RJ w (W.setCell ⟨b, 5, none⟩ v) g b ws p u0 u1 u2 u3 u4 v u6 u7 := ⟨blk_far h.res (Nat.ne_of_lt (Nat.lt_trans h.lt1 h.lt2)) v, (blk_set h.job 5 v).trans rfl, h.farb 5 v, below_set h.bel (Nat.le_of_lt (Nat.lt_trans h.lt1 h.lt2)), h.lt1, h.lt2⟩
theorem RJ.c5 (h : RJ w W g b ws p u0 u1 u2 u3 u4 u5 u6 u7) : W.cell? ⟨b, 5, none⟩ = some u5 := (blk_cell h.job 5).trans rfl
theorem RJ.f5 (h : RJ w W g b ws p u0 u1 u2 u3 u4 u5 u6 u7) : W.frozen? ⟨b, 5, none⟩ = false := blk_frozen h.job 5
theorem RJ.s6 (h : RJ w W g b ws p u0 u1 u2 u3 u4 u5 u6 u7) (v : Value) : RJ w (W.setCell ⟨b, 6, none⟩ v) g b ws p u0 u1 u2 u3 u4 u5 v u7 := ⟨blk_far h.res (Nat.ne_of_lt (Nat.lt_trans h.lt1 h.lt2)) v, (blk_set h.job 6 v).trans rfl, h.farb 6 v, below_set h.bel (Nat.le_of_lt (Nat.lt_trans h.lt1 h.lt2)), h.lt1, h.lt2⟩
theorem RJ.c6 (h : RJ w W g b ws p u0 u1 u2 u3 u4 u5 u6 u7) : W.cell? ⟨b, 6, none⟩ = some u6 := (blk_cell h.job 6).trans rfl
theorem RJ.f6 (h : RJ w W g b ws p u0 u1 u2 u3 u4 u5 u6 u7) : W.frozen? ⟨b, 6, none⟩ = false := blk_frozen h.job 6
theorem RJ.s7 (h : RJ w W g b ws p u0 u1 u2 u3 u4 u5 u6 u7) (v : Value) : RJ w (W.setCell ⟨b, 7, none⟩ v) g b ws p u0 u1 u2 u3 u4 u5 u6 v := ⟨blk_far h.res (Nat.ne_of_lt (Nat.lt_trans h.lt1 h.lt2)) v, (blk_set h.job 7 v).trans rfl, h.farb 7 v, below_set h.bel (Nat.le_of_lt (Nat.lt_trans h.lt1 h.lt2)), h.lt1, h.lt2⟩
theorem RJ.c7 (h : RJ w W g b ws p u0 u1 u2 u3 u4 u5 u6 u7) : W.cell? ⟨b, 7, none⟩ = some u7 := (blk_cell h.job 7).trans rfl
theorem RJ.f7 (h : RJ w W g b ws p u0 u1 u2 u3 u4 u5 u6 u7) : W.frozen? ⟨b, 7, none⟩ = false := blk_frozen h.job 7
end
theorem IsRb.at {w0 W W' : World} {g a : Nat} {ws : List Int} {e : Int} (h : IsRb w0 W g ws a e) (hh : W'.heap[g]? = W.heap[g]?) : IsRb w0 W' g ws a e := by
  obtain ⟨A, c, hg, r⟩ := h
  exact ⟨A, c, hh.trans hg, r⟩
theorem R_by2 {α β : Type} {d : Kd α} {d' : Kd β} {e e' b b2 : Nat} {ok ok' : Nat → Prop} {W W1 : World} {v u : Value} {xs : List α} {ys : List β} (h : Kd.R d e W b ok v xs) (h' : Kd.R d' e' W b2 ok' u ys) (hne : ∀ q, q ∈ e :: d.E → q ≠ e') (hg : W.grownBy W1 u.ownBlock) : Kd.R d e W1 b ok v xs := by
  cases hu : u.ownBlock with
  | none =>
    rw [hu] at hg
    exact Kd.R_grown h hg (fun _ _ => by simp)
  | some g =>
    rw [hu] at hg
    obtain ⟨inner, ho⟩ := Kd.R_own h'
    obtain ⟨cells, hc⟩ := own_typed ho g hu
    exact Kd.R_mono (Kd.R_grown (Kd.R_types h hc hne) hg (fun k hk => by simp; exact hk.2)) (fun _ hk => hk.1)
theorem IsOwn.by2 {β : Type} {d' : Kd β} {e' b b2 : Nat} {ok' : Nat → Prop} {W W1 : World} {u : Value} {ys : List β} {c : Cfg} {cs : Array Value} (h : IsOwn W b c cs) (h' : Kd.R d' e' W b2 ok' u ys) (h0 : ∀ q, q ∈ 64 :: k64.E → q ≠ e') (h1 : ∀ q, q ∈ 68 :: k68.E → q ≠ e') (h2 : ∀ q, q ∈ 72 :: k72.E → q ≠ e') (hg : W.grownBy W1 u.ownBlock) : IsOwn W1 b c cs := by
  obtain ⟨v0, v1, v2, v3, e, r0, r1, r2, r3⟩ := h
  exact ⟨v0, v1, v2, v3, e, R_by2 r0 h' h0 hg, R_by2 r1 h' h1 hg, R_by2 r2 h' h2 hg, R_by2 r3 h' h2 hg⟩
theorem IsOwn.keep {W W1 : World} {b g : Nat} {c : Cfg} {cs : Array Value} (h : IsOwn W b c cs) (hk : KeepBut W W1 g none) (hg : g < b) : IsOwn W1 b c cs := h.step (fun k h1 h2 => hk.2 k h2 (Nat.ne_of_gt (Nat.lt_of_lt_of_le hg h1)) (by simp))
theorem IsOwn.far {W : World} {b g i : Nat} {c : Cfg} {cs : Array Value} (h : IsOwn W b c cs) (hg : g < b) (v : Value) : IsOwn (W.setCell ⟨g, i, none⟩ v) b c cs := h.step (fun k h1 _ => Below.heap_setCell _ _ _ _ (Nat.ne_of_gt (Nat.lt_of_lt_of_le hg h1)))
theorem plL_le {ws : List Int} : ∀ (n : Nat) {p : Pl}, p.a ≤ ws.length → (plL ws n p).2.a ≤ ws.length
  | 0, p, h => h
  | n + 1, p, h => plL_le n (plN_le h)
theorem rrP_le {ws : List Int} {p : Pl} (h : p.a ≤ ws.length) : (rrP ws p).2.a ≤ ws.length := plL_le _ (rnA_le ws _ _ (plN_le (plN_le (plN_le (plN_le h)))))
theorem rlP_step {α : Type} (one : Pl → α × Pl) (n : Nat) {p : Pl} (h : p.e = 0) : rlP one (n + 1) p = ((one p).1 :: (rlP one n (one p).2).1, (rlP one n (one p).2).2) := by
  show (if p.e = 0 then _ else _) = _
  rw [if_pos h]
theorem rlP_le {α : Type} {ws : List Int} {one : Pl → α × Pl} (ho : ∀ p : Pl, p.a ≤ ws.length → (one p).2.a ≤ ws.length) : ∀ (n : Nat) (p : Pl), p.a ≤ ws.length → (rlP one n p).2.a ≤ ws.length
  | 0, p, h => h
  | n + 1, p, h => by
    by_cases h0 : p.e = 0
    · rw [rlP_step one n h0]
      exact rlP_le ho n _ (ho p h)
    · rw [rlP_bad one _ h0]
      exact h
theorem rlsP_le {α : Type} {ws : List Int} {one : Pl → α × Pl} (ho : ∀ p : Pl, p.a ≤ ws.length → (one p).2.a ≤ ws.length) (m : Int) (p : Pl) (h : p.a ≤ ws.length) : (rlsP ws one m p).2.a ≤ ws.length := rlP_le ho _ _ (rnA_le ws _ _ h)
theorem rcfP_le {ws : List Int} (hw : Words ws) : (rcfP ws).2.a ≤ ws.length := by
  have hv : 0 ≤ plV ws ⟨0, 0⟩ ∧ plV ws ⟨0, 0⟩ ≤ 4294967295 := rnV_le hw 0 0
  have h1 : (plN ws ⟨0, 0⟩).a ≤ ws.length := rnA_le ws 0 0 (Nat.zero_le _)
  unfold rcfP
  split
  · rename_i h0
    have hl : 0 < ws.length := by
      cases ws with
      | nil => exact absurd h0 (by decide)
      | cons x r => exact Nat.succ_pos _
    split
    · exact h1
    · show 1 + (plV ws ⟨0, 0⟩).toNat ≤ ws.length
      omega
  · exact h1
set_option maxRecDepth 20000 in
set_option maxHeartbeats 8000000 in
theorem refparse_job (A : Option Addr) (c : Nat) (ws : List Int) (w : World) (hw : Words ws) (hl : ws.length ≤ 1000000) (hc : ws.length ≤ c) (hr : Kd.C (Kd.int .u32) w A ws.length ws) :
    Calls Try.prog 27 #[.slice A ws.length c] w fun e w' => ∃ cs, e = .returned (.tuple #[.agg cs, .int .i64 (rjE ws)]) ∧ JobOwn w' w.heap.size (rjJ ws) cs ∧ Below w.heap.size w w' := by
  have hs1 : (w.alloc (.cells #[.slice none 0 0, .slice none 0 0, .int .i64 0, .slice none 0 0, .int .i64 0, .slice none 0 0, .slice none 0 0, .slice none 0 0] 48)).heap.size = w.heap.size + 1 := by simp
  have hs2 : ((w.alloc (.cells #[.slice none 0 0, .slice none 0 0, .int .i64 0, .slice none 0 0, .int .i64 0, .slice none 0 0, .slice none 0 0, .slice none 0 0] 48)).alloc (.cells #[.slice A ws.length c, .int .i64 0, .int .i64 0] 106)).heap.size = w.heap.size + 1 + 1 := by simp
  have hb1 := below_alloc (Below.refl _ w) (.cells #[.slice none 0 0, .slice none 0 0, .int .i64 0, .slice none 0 0, .int .i64 0, .slice none 0 0, .slice none 0 0, .slice none 0 0] 48)
  have hb2 := below_alloc (Below.refl _ (w.alloc (.cells #[.slice none 0 0, .slice none 0 0, .int .i64 0, .slice none 0 0, .int .i64 0, .slice none 0 0, .slice none 0 0, .slice none 0 0] 48))) (.cells #[.slice A ws.length c, .int .i64 0, .int .i64 0] 106)
  have hb3 := below_alloc (Below.refl _ ((w.alloc (.cells #[.slice none 0 0, .slice none 0 0, .int .i64 0, .slice none 0 0, .int .i64 0, .slice none 0 0, .slice none 0 0, .slice none 0 0] 48)).alloc (.cells #[.slice A ws.length c, .int .i64 0, .int .i64 0] 106))) (.cells #[.slice none 0 0, .slice none 0 0, .int .i64 0, .slice none 0 0, .int .i64 0, .slice none 0 0, .slice none 0 0, .slice none 0 0] 48)
  have hg2 := blk_below (blk_new (w.alloc (.cells #[.slice none 0 0, .slice none 0 0, .int .i64 0, .slice none 0 0, .int .i64 0, .slice none 0 0, .slice none 0 0, .slice none 0 0] 48)) (.cells #[.slice A ws.length c, .int .i64 0, .int .i64 0] 106)) hb3
  rw [hs1] at hg2
  have hg1 := blk_below (blk_below (blk_new w (.cells #[.slice none 0 0, .slice none 0 0, .int .i64 0, .slice none 0 0, .int .i64 0, .slice none 0 0, .slice none 0 0, .slice none 0 0] 48)) hb2) hb3
  have hg3 := blk_new ((w.alloc (.cells #[.slice none 0 0, .slice none 0 0, .int .i64 0, .slice none 0 0, .int .i64 0, .slice none 0 0, .slice none 0 0, .slice none 0 0] 48)).alloc (.cells #[.slice A ws.length c, .int .i64 0, .int .i64 0] 106)) (.cells #[.slice none 0 0, .slice none 0 0, .int .i64 0, .slice none 0 0, .int .i64 0, .slice none 0 0, .slice none 0 0, .slice none 0 0] 48)
  rw [hs2] at hg3
  have HX : Aside0 (RJ w (((w.alloc (.cells #[.slice none 0 0, .slice none 0 0, .int .i64 0, .slice none 0 0, .int .i64 0, .slice none 0 0, .slice none 0 0, .slice none 0 0] 48)).alloc (.cells #[.slice A ws.length c, .int .i64 0, .int .i64 0] 106)).alloc (.cells #[.slice none 0 0, .slice none 0 0, .int .i64 0, .slice none 0 0, .int .i64 0, .slice none 0 0, .slice none 0 0, .slice none 0 0] 48)) (w.heap.size + 1) (w.heap.size + 1 + 1) ws ⟨0, 0⟩ (.slice none 0 0) (.slice none 0 0) (.int .i64 0) (.slice none 0 0) (.int .i64 0) (.slice none 0 0) (.slice none 0 0) (.slice none 0 0)) := ⟨⟨hg1, hg3, ⟨A, c, hg2, Nat.le_succ _, hc, hr⟩, hb1.trans ((hb2.trans (hb3.mono hb2.size)).mono hb1.size), Nat.lt_succ_self _, Nat.lt_succ_self _⟩⟩
  have HW := Aside0.mk hw
  have HL := Aside0.mk hl
  have HCR := Aside0.mk (And.intro hc hr)
  have HC0 := Aside0.mk (fun (X : World) (g : Nat) (h : Rb w X g ws 0 0 X) => pl_next w g ws HL.out ⟨0, 0⟩ (Nat.zero_le _) X X h)
  have hcf : rcfP ws = (if (plN ws ⟨0, 0⟩).e = 0 then (if (ws.length : Int) - 1 < plV ws ⟨0, 0⟩ then (zcfg, ⟨(plN ws ⟨0, 0⟩).a, 8⟩) else (parseR ((ws.drop 1).take (plV ws ⟨0, 0⟩).toNat), ⟨1 + (plV ws ⟨0, 0⟩).toNat, parseE ((ws.drop 1).take (plV ws ⟨0, 0⟩).toNat)⟩)) else (zcfg, plN ws ⟨0, 0⟩)) := rfl
  have HCF := Aside0.mk hcf
  have hv : 0 ≤ plV ws ⟨0, 0⟩ ∧ plV ws ⟨0, 0⟩ ≤ 4294967295 := rnV_le hw 0 0
  have HA1 : Aside0 ((plN ws ⟨0, 0⟩).a ≤ ws.length) := ⟨rnA_le ws 0 0 (Nat.zero_le _)⟩
  have HCA : Aside0 ((rcfP ws).2.a ≤ ws.length) := ⟨rcfP_le hw⟩
  have HE1 : Aside0 ((plN ws ⟨0, 0⟩).e = 0 → 0 < ws.length) := ⟨fun h => by
    cases ws with
    | nil => exact absurd h (by decide)
    | cons x r => exact Nat.succ_pos _⟩
  have HJ : Aside0 (rjE ws = (if (raP ws (rsP ws (rcfP ws).2).2).2.e = 0 ∧ (raP ws (rsP ws (rcfP ws).2).2).2.a < ws.length then 9 else (raP ws (rsP ws (rcfP ws).2).2).2.e) ∧ rjJ ws = (if rjE ws = 0 then ⟨(rcfP ws).1, (rsP ws (rcfP ws).2).1, (raP ws (rsP ws (rcfP ws).2).2).1⟩ else zjob)) := ⟨rfl, rfl⟩
  clear hs1 hs2 hb1 hb2 hb3 hg1 hg2 hg3 hw hc hr hcf
  generalize rcfP ws = cfp at *
  generalize rjE ws = je at *
  generalize rjJ ws = jj at *
  generalize plN ws ⟨0, 0⟩ = p1 at *
  generalize plV ws ⟨0, 0⟩ = n at *
  have hcv := i64_of hv
  obtain ⟨lw, hlw⟩ : ∃ l, ws.length = l := ⟨_, rfl⟩
  rw [hlw] at HX HCF HA1 hl HE1 ⊢
  have HLW := Aside0.mk hlw
  clear hlw
  go_enter Try.func27, Try.ntmps27
  go_wp2_with fail
  generalize (((w.alloc (.cells #[.slice none 0 0, .slice none 0 0, .int .i64 0, .slice none 0 0, .int .i64 0, .slice none 0 0, .slice none 0 0, .slice none 0 0] 48)).alloc (.cells #[.slice A lw c, .int .i64 0, .int .i64 0] 106)).alloc (.cells #[.slice none 0 0, .slice none 0 0, .int .i64 0, .slice none 0 0, .int .i64 0, .slice none 0 0, .slice none 0 0, .slice none 0 0] 48)) = v0 at *
  generalize w.heap.size + 1 + 1 = b at *
  generalize w.heap.size + 1 = g at *
  refine (HC0.out v0 g HX.out.rbx).mono ?_
  rintro e w1 ⟨rfl, h1, hk⟩
  have HX1 := Aside0.mk (HX.out.step (p' := p1) h1)
  clear h1 hk HX HC0
  obtain ⟨tb, htb⟩ : ∃ t : Bool, (decide (p1.e = 0) && decide ((lw : Int) - 1 < n)) = t := ⟨_, rfl⟩
  have HTB := Aside0.mk htb
  obtain ⟨p2, hp2⟩ : ∃ q : Pl, (if tb = true then (⟨p1.a, 8⟩ : Pl) else p1) = q := ⟨_, rfl⟩
  have HP2 := Aside0.mk hp2
  have HPT : Aside0 (tb = true → p2 = ⟨p1.a, 8⟩) := ⟨fun h => by rw [← hp2, if_pos h]⟩
  have HPF : Aside0 (tb = false → p2 = p1) := ⟨fun h => by rw [← hp2, h]; rfl⟩
  clear htb hp2
  go_upto_region 4 with fail
  go_cut [34] (fun s34 wx => s34 = .bool tb ∧ Aside0 (RJ w wx g b ws p1 (.slice none 0 0) (.slice none 0 0) (.int .i64 0) (.slice none 0 0) (.int .i64 0) (.slice none 0 0) (.slice none 0 0) (.slice none 0 0)))
  case first =>
    have hce := HX1.out.ce
    have hfe := HX1.out.fe
    have hw1 : wrap64 ((lw : Int) - 1) = (lw : Int) - 1 := by unfold wrap64; omega
    by_cases he : p1.e = 0
    · have e0 : (p1.e == 0) = true := by simp [he]
      by_cases hgt : (lw : Int) - 1 < n
      · have hd : decide ((lw : Int) - 1 < n) = true := decide_eq_true hgt
        have ht : tb = true := by rw [← HTB.out, he, hd]; rfl
        subst ht
        clear he hgt
        go_wp2
        go_meet
        exact ⟨rfl, HX1⟩
      · have hd : decide ((lw : Int) - 1 < n) = false := decide_eq_false hgt
        have ht : tb = false := by rw [← HTB.out, hd]; simp
        subst ht
        clear he hgt
        go_wp2
        go_meet
        exact ⟨rfl, HX1⟩
    · have e0 : (p1.e == 0) = false := by simp [he]
      have ht : tb = false := by rw [← HTB.out]; simp [he]
      subst ht
      clear he
      go_wp2
      go_meet
      exact ⟨rfl, HX1⟩
  case rest =>
    obtain ⟨rfl, HX2⟩ := hcut
    clear HX1
    go_upto_if 34 with fail
    go_cut [] (fun wx => Aside0 (RJ w wx g b ws p2 (.slice none 0 0) (.slice none 0 0) (.int .i64 0) (.slice none 0 0) (.int .i64 0) (.slice none 0 0) (.slice none 0 0) (.slice none 0 0)))
    case first =>
      cases tb with
      | true =>
        obtain rfl := HPT.out rfl
        have hce := HX2.out.ce
        have hfe := HX2.out.fe
        clear HPT HPF
        go_wp2
        go_meet
        exact ⟨HX2.out.setE 8⟩
      | false =>
        obtain rfl := HPF.out rfl
        clear HPT HPF
        go_wp2
        go_meet
        exact HX2
    case rest =>
      have HX3 := hcut
      have HD : Aside0 ((p2.e = 0 → p1.e = 0 ∧ p2 = p1 ∧ ¬ (lw : Int) - 1 < n) ∧ (¬ p2.e = 0 → cfp = (zcfg, p2))) := ⟨by
        have hT := HTB.out
        by_cases he : p1.e = 0
        · by_cases hgt : (lw : Int) - 1 < n
          · have ht : tb = true := by rw [← hT]; simp [he, hgt]
            have h2 := HPT.out ht
            refine ⟨fun h => ?_, fun _ => ?_⟩
            · rw [h2] at h
              exact absurd h (by show ¬ (8 : Int) = 0; decide)
            · rw [HCF.out, if_pos he, if_pos hgt, h2]
          · have ht : tb = false := by rw [← hT]; simp [hgt]
            have h2 := HPF.out ht
            exact ⟨fun _ => ⟨he, h2, hgt⟩, fun h => absurd (by rw [h2]; exact he) h⟩
        · have ht : tb = false := by rw [← hT]; simp [he]
          have h2 := HPF.out ht
          refine ⟨fun h => absurd (by rw [← h2]; exact h) he, fun _ => ?_⟩
          rw [HCF.out, if_neg he, h2]⟩
      have hce := HX3.out.ce
      clear HPT HPF HTB HP2 HX2
      go_upto_region 6 with fail
      go_cut [42] (fun s42 wx => s42 = .bool (p2.e == 0) ∧ Aside0 (RJ w wx g b ws p2 (.slice none 0 0) (.slice none 0 0) (.int .i64 0) (.slice none 0 0) (.int .i64 0) (.slice none 0 0) (.slice none 0 0) (.slice none 0 0)))
      case first =>
        go_wp2
        go_meet
        exact ⟨rfl, HX3⟩
      case rest =>
        obtain ⟨rfl, HX4⟩ := hcut
        clear HX3 hce
        go_upto_if 42 with fail
        go_cut [] (fun wx => ∃ (P0 : Option Addr) (n0 d0 : Nat) (P1 : Option Addr) (n1 d1 : Nat) (l0 : Int) (P2 : Option Addr) (n2 d2 : Nat) (l1 : Int) (P3 : Option Addr) (n3 d3 : Nat), Aside0 (RJ w wx g b ws cfp.2 (.slice P0 n0 d0) (.slice P1 n1 d1) (.int .i64 l0) (.slice P2 n2 d2) (.int .i64 l1) (.slice P3 n3 d3) (.slice none 0 0) (.slice none 0 0)) ∧ Aside0 (IsOwn wx (b + 1) cfp.1 #[.slice P0 n0 d0, .slice P1 n1 d1, .int .i64 l0, .slice P2 n2 d2, .int .i64 l1, .slice P3 n3 d3]))
        case first =>
          by_cases he : p2.e = 0
          · have e0 : (p2.e == 0) = true := by simp [he]
            obtain ⟨hp1, rfl, hgt⟩ := HD.out.1 he
            have hlw := HE1.out hp1
            have HZ : Aside0 (cfp = (parseR ((ws.drop 1).take n.toNat), ⟨1 + n.toNat, parseE ((ws.drop 1).take n.toNat)⟩)) := ⟨by rw [HCF.out, if_pos hp1, if_neg hgt]⟩
            obtain ⟨hc, hr⟩ := HCR.out
            rw [HLW.out] at hc
            have hw2 : wrap64 (1 + n) = 1 + n := by unfold wrap64; omega
            have hs0 : (1 : Int) ≤ 1 + n := by omega
            have hs1 : 1 + n ≤ (c : Int) := by omega
            have hwl := HLW.out
            have hk : (1 + n).toNat - 1 = n.toNat := by omega
            have hll : ((ws.drop 1).take n.toNat).length = n.toNat := by rw [List.length_take, List.length_drop, hwl]; omega
            obtain ⟨Ax, hAx⟩ : ∃ x : Option Addr, (if c = 1 then A else A.map (·.add (1 * (Kd.int .u32).sz))) = x := ⟨_, rfl⟩
            have HPA : Aside0 (Calls Try.prog 15 #[.slice Ax n.toNat (c - 1)] wc fun e w' => ∃ cs, e = .returned (.tuple #[.agg cs, .int .i64 (parseE ((ws.drop 1).take n.toNat))]) ∧ IsOwn w' wc.heap.size (parseR ((ws.drop 1).take n.toNat)) cs ∧ Below wc.heap.size wc w') := ⟨by
              have h0 := Kd.C_drop (m := 1) (Kd.C_below hr HX4.out.bel) (by rw [hwl]; exact hlw) (by rw [hwl]; exact hc)
              rw [hAx] at h0
              have h1 := Kd.C_take (m := n.toNat) h0 (by rw [List.length_drop, hwl]; omega)
              have h2 := refparse_calls Ax (c - 1) ((ws.drop 1).take n.toNat) wc (fun x hx => HW.out x (List.mem_of_mem_drop (List.mem_of_mem_take hx))) (by rw [hll]; omega) (by rw [hll]; omega) h1
              rw [hll] at h2
              exact h2⟩
            have HAX : Aside0 ((c = 1 → Ax = A) ∧ (¬ c = 1 → Ax = A.map (fun x => { block := x.block, off := x.off + 1 }))) := ⟨⟨fun h => by rw [← hAx, if_pos h], fun h => by rw [← hAx, if_neg h]; rfl⟩⟩
            generalize hsub : (ws.drop 1).take n.toNat = sub at *
            have HSUB := Aside0.mk hsub
            clear hsub
            clear hp1 he hr HD HCF hwl hll hAx
            by_cases hc1 : c = 1
            · subst hc1
              have hax := HAX.out.1 rfl
              subst hax
              clear HAX
              go_wp2_with fail
              refine HPA.out.mono ?_
              rintro e w5 ⟨cs, rfl, ho, hb⟩
              obtain ⟨P0, n0, d0, P1, n1, d1, P2, n2, d2, P3, n3, d3, rfl⟩ := own_vals ho
              obtain ⟨l0, hl0⟩ : ∃ l, (parseR sub).l0 = l := ⟨_, rfl⟩
              obtain ⟨l1, hl1⟩ : ∃ l, (parseR sub).l1 = l := ⟨_, rfl⟩
              rw [hl0, hl1] at ho ⊢
              have HX5 := Aside0.mk (HX4.out.to hb HX4.out.size (Nat.le_refl _))
              have HO5 := Aside0.mk (ho.lower HX4.out.size)
              clear ho hb hl0 hl1 HPA
              go_upto_region 8 with fail
              have hba := below_alloc (Below.refl _ w5) (.cells #[.slice P0 n0 d0, .slice P1 n1 d1, .int .i64 l0, .slice P2 n2 d2, .int .i64 l1, .slice P3 n3 d3] 31)
              have HX6 := Aside0.mk (HX5.out.to hba HX5.out.size (Nat.le_refl _))
              have HO6 := Aside0.mk (HO5.out.step (fun k h1 h2 => hba.block k h2))
              have HG6 := Aside0.mk (blk_new w5 (.cells #[.slice P0 n0 d0, .slice P1 n1 d1, .int .i64 l0, .slice P2 n2 d2, .int .i64 l1, .slice P3 n3 d3] 31))
              generalize w5.alloc (.cells #[.slice P0 n0 d0, .slice P1 n1 d1, .int .i64 l0, .slice P2 n2 d2, .int .i64 l1, .slice P3 n3 d3] 31) = w6 at *
              generalize w5.heap.size = t at *
              clear hba HX5 HO5
              have hx0 := (blk_cell HG6.out 0).trans rfl
              have hf0 := HX6.out.f0
              have hy0 := HX6.out.c0
              have hx1 := (blk_cell HG6.out 1).trans rfl
              have hf1 := HX6.out.f1
              have hy1 := HX6.out.c1
              have hx2 := (blk_cell HG6.out 2).trans rfl
              have hf2 := HX6.out.f2
              have hy2 := HX6.out.c2
              have hx3 := (blk_cell HG6.out 3).trans rfl
              have hf3 := HX6.out.f3
              have hy3 := HX6.out.c3
              have hx4 := (blk_cell HG6.out 4).trans rfl
              have hf4 := HX6.out.f4
              have hy4 := HX6.out.c4
              have hx5 := (blk_cell HG6.out 5).trans rfl
              have hf5 := HX6.out.f5
              have hy5 := HX6.out.c5
              go_upto_region 9 with fail
              clear hx0 hx1 hx2 hx3 hx4 hx5 hf0 hf1 hf2 hf3 hf4 hf5 hy0 hy1 hy2 hy3 hy4 hy5
              have HX7 := Aside0.mk ((((((HX6.out.s0 (.slice P0 n0 d0)).s1 (.slice P1 n1 d1)).s2 (.int .i64 l0)).s3 (.slice P2 n2 d2)).s4 (.int .i64 l1)).s5 (.slice P3 n3 d3))
              have HO7 := Aside0.mk (IsOwn.far (i := 5) (IsOwn.far (i := 4) (IsOwn.far (i := 3) (IsOwn.far (i := 2) (IsOwn.far (i := 1) (IsOwn.far (i := 0) HO6.out (Nat.lt_succ_self b) (.slice P0 n0 d0)) (Nat.lt_succ_self b) (.slice P1 n1 d1)) (Nat.lt_succ_self b) (.int .i64 l0)) (Nat.lt_succ_self b) (.slice P2 n2 d2)) (Nat.lt_succ_self b) (.int .i64 l1)) (Nat.lt_succ_self b) (.slice P3 n3 d3))
              generalize ((((((w6.setCell ⟨b, 0, none⟩ (.slice P0 n0 d0)).setCell ⟨b, 1, none⟩ (.slice P1 n1 d1)).setCell ⟨b, 2, none⟩ (.int .i64 l0)).setCell ⟨b, 3, none⟩ (.slice P2 n2 d2)).setCell ⟨b, 4, none⟩ (.int .i64 l1)).setCell ⟨b, 5, none⟩ (.slice P3 n3 d3)) = w7 at *
              clear HX6 HO6 HG6
              have hfe := HX7.out.fe
              have hce := HX7.out.ce
              go_upto_region 10 with fail
              clear hfe hce
              have HX8 := Aside0.mk (HX7.out.setE (parseE sub))
              have HO8 := Aside0.mk (IsOwn.far (i := 2) HO7.out (Nat.lt_succ_of_lt HX7.out.lt2) (.int .i64 (parseE sub)))
              generalize w7.setCell ⟨g, 2, none⟩ (.int .i64 (parseE sub)) = w8 at *
              clear HX7 HO7
              have hfa := HX8.out.fa
              have hca := HX8.out.ca
              go_wp2
              go_meet
              have hnn : ((1 + n.toNat : Nat) : Int) = 1 + n := by have := hv.1; omega
              refine ⟨P0, n0, d0, P1, n1, d1, l0, P2, n2, d2, l1, P3, n3, d3, ⟨?_⟩, ⟨?_⟩⟩
              · rw [HZ.out]
                have h := HX8.out.setA (1 + n.toNat)
                rw [hnn] at h
                exact h
              · rw [HZ.out]
                exact IsOwn.far (i := 1) HO8.out (Nat.lt_succ_of_lt HX8.out.lt2) _
            · have hax := HAX.out.2 hc1
              subst hax
              clear HAX
              go_wp2_with fail
              refine HPA.out.mono ?_
              rintro e w5 ⟨cs, rfl, ho, hb⟩
              obtain ⟨P0, n0, d0, P1, n1, d1, P2, n2, d2, P3, n3, d3, rfl⟩ := own_vals ho
              obtain ⟨l0, hl0⟩ : ∃ l, (parseR sub).l0 = l := ⟨_, rfl⟩
              obtain ⟨l1, hl1⟩ : ∃ l, (parseR sub).l1 = l := ⟨_, rfl⟩
              rw [hl0, hl1] at ho ⊢
              have HX5 := Aside0.mk (HX4.out.to hb HX4.out.size (Nat.le_refl _))
              have HO5 := Aside0.mk (ho.lower HX4.out.size)
              clear ho hb hl0 hl1 HPA
              go_upto_region 8 with fail
              have hba := below_alloc (Below.refl _ w5) (.cells #[.slice P0 n0 d0, .slice P1 n1 d1, .int .i64 l0, .slice P2 n2 d2, .int .i64 l1, .slice P3 n3 d3] 31)
              have HX6 := Aside0.mk (HX5.out.to hba HX5.out.size (Nat.le_refl _))
              have HO6 := Aside0.mk (HO5.out.step (fun k h1 h2 => hba.block k h2))
              have HG6 := Aside0.mk (blk_new w5 (.cells #[.slice P0 n0 d0, .slice P1 n1 d1, .int .i64 l0, .slice P2 n2 d2, .int .i64 l1, .slice P3 n3 d3] 31))
              generalize w5.alloc (.cells #[.slice P0 n0 d0, .slice P1 n1 d1, .int .i64 l0, .slice P2 n2 d2, .int .i64 l1, .slice P3 n3 d3] 31) = w6 at *
              generalize w5.heap.size = t at *
              clear hba HX5 HO5
              have hx0 := (blk_cell HG6.out 0).trans rfl
              have hf0 := HX6.out.f0
              have hy0 := HX6.out.c0
              have hx1 := (blk_cell HG6.out 1).trans rfl
              have hf1 := HX6.out.f1
              have hy1 := HX6.out.c1
              have hx2 := (blk_cell HG6.out 2).trans rfl
              have hf2 := HX6.out.f2
              have hy2 := HX6.out.c2
              have hx3 := (blk_cell HG6.out 3).trans rfl
              have hf3 := HX6.out.f3
              have hy3 := HX6.out.c3
              have hx4 := (blk_cell HG6.out 4).trans rfl
              have hf4 := HX6.out.f4
              have hy4 := HX6.out.c4
              have hx5 := (blk_cell HG6.out 5).trans rfl
              have hf5 := HX6.out.f5
              have hy5 := HX6.out.c5
              go_upto_region 9 with fail
              clear hx0 hx1 hx2 hx3 hx4 hx5 hf0 hf1 hf2 hf3 hf4 hf5 hy0 hy1 hy2 hy3 hy4 hy5
              have HX7 := Aside0.mk ((((((HX6.out.s0 (.slice P0 n0 d0)).s1 (.slice P1 n1 d1)).s2 (.int .i64 l0)).s3 (.slice P2 n2 d2)).s4 (.int .i64 l1)).s5 (.slice P3 n3 d3))
              have HO7 := Aside0.mk (IsOwn.far (i := 5) (IsOwn.far (i := 4) (IsOwn.far (i := 3) (IsOwn.far (i := 2) (IsOwn.far (i := 1) (IsOwn.far (i := 0) HO6.out (Nat.lt_succ_self b) (.slice P0 n0 d0)) (Nat.lt_succ_self b) (.slice P1 n1 d1)) (Nat.lt_succ_self b) (.int .i64 l0)) (Nat.lt_succ_self b) (.slice P2 n2 d2)) (Nat.lt_succ_self b) (.int .i64 l1)) (Nat.lt_succ_self b) (.slice P3 n3 d3))
              generalize ((((((w6.setCell ⟨b, 0, none⟩ (.slice P0 n0 d0)).setCell ⟨b, 1, none⟩ (.slice P1 n1 d1)).setCell ⟨b, 2, none⟩ (.int .i64 l0)).setCell ⟨b, 3, none⟩ (.slice P2 n2 d2)).setCell ⟨b, 4, none⟩ (.int .i64 l1)).setCell ⟨b, 5, none⟩ (.slice P3 n3 d3)) = w7 at *
              clear HX6 HO6 HG6
              have hfe := HX7.out.fe
              have hce := HX7.out.ce
              go_upto_region 10 with fail
              clear hfe hce
              have HX8 := Aside0.mk (HX7.out.setE (parseE sub))
              have HO8 := Aside0.mk (IsOwn.far (i := 2) HO7.out (Nat.lt_succ_of_lt HX7.out.lt2) (.int .i64 (parseE sub)))
              generalize w7.setCell ⟨g, 2, none⟩ (.int .i64 (parseE sub)) = w8 at *
              clear HX7 HO7
              have hfa := HX8.out.fa
              have hca := HX8.out.ca
              go_wp2
              go_meet
              have hnn : ((1 + n.toNat : Nat) : Int) = 1 + n := by have := hv.1; omega
              refine ⟨P0, n0, d0, P1, n1, d1, l0, P2, n2, d2, l1, P3, n3, d3, ⟨?_⟩, ⟨?_⟩⟩
              · rw [HZ.out]
                have h := HX8.out.setA (1 + n.toNat)
                rw [hnn] at h
                exact h
              · rw [HZ.out]
                exact IsOwn.far (i := 1) HO8.out (Nat.lt_succ_of_lt HX8.out.lt2) _
          · have e0 : (p2.e == 0) = false := by simp [he]
            have HZ := Aside0.mk (HD.out.2 he)
            clear he
            go_wp2
            go_meet
            exact ⟨none, 0, 0, none, 0, 0, 0, none, 0, 0, 0, none, 0, 0, ⟨by rw [HZ.out]; exact HX4.out⟩, ⟨by rw [HZ.out]; exact isOwn_zero _ _⟩⟩
        case rest =>
          obtain ⟨P0, n0, d0, P1, n1, d1, l0, P2, n2, d2, l1, P3, n3, d3, HX5, HO5⟩ := hcut
          have HLB := HL
          clear HX4 HD HE1 HA1 HCF HCR hcv hv hl
          obtain ⟨cf, pc⟩ := cfp
          have HCN : Aside0 (∀ (q : Pl) (m n : Int) (q' : Pl), q.a ≤ ws.length → rcV ws q.a q.e m = n → plC ws q m = q' → ∀ X, Rb w X g ws q.a q.e X → Calls Try.prog 58 #[.pointer (some ⟨g, 0, none⟩), .int .u32 m] X fun e w' => e = .returned (.int .i64 n) ∧ Rb w X g ws q'.a q'.e w' ∧ KeepBut X w' g none) := ⟨fun q m n q' hq hn hp X h => by
            have h2 := pl_count w g ws HW.out HL.out m q hq X X h
            rw [hn, hp] at h2
            exact h2⟩
          have hnb := rcV_le HW.out pc.a pc.e 64 (by decide)
          obtain ⟨nS, hnS⟩ : ∃ n, rcV ws pc.a pc.e 64 = n := ⟨_, rfl⟩
          have HTS : Aside0 (rsP ws pc = rlP (rqsP ws) nS.toNat (plC ws pc 64)) := ⟨by rw [← hnS]; rfl⟩
          obtain ⟨q0, hq0⟩ : ∃ q, plC ws pc 64 = q := ⟨_, rfl⟩
          have HC1 := Aside0.mk (HCN.out pc 64 nS q0 HCA.out hnS hq0)
          rw [hnS] at hnb
          rw [hq0] at HTS
          have HNN := Aside0.mk hnb
          have HQ0 := Aside0.mk hq0
          clear hnS hnb hq0
          go_wp2_with fail
          refine (HC1.out _ HX5.out.rbx).mono ?_
          rintro e w1 ⟨rfl, h1, hk⟩
          have HX6 := Aside0.mk (HX5.out.step (p' := q0) h1)
          have HO6 := Aside0.mk (IsOwn.keep HO5.out h1.keep (Nat.lt_succ_of_lt HX5.out.lt2))
          have HA6 : Aside0 (q0.a ≤ ws.length) := ⟨by rw [← HQ0.out]; exact rnA_le ws _ _ HCA.out⟩
          have HAS : Aside0 ((rsP ws pc).2.a ≤ ws.length) := ⟨rlsP_le (fun p h => rlsP_le (fun p h => rrP_le h) 64 p h) 64 pc HCA.out⟩
          clear h1 hk HX5 HO5 HC1
          obtain ⟨tot, htot⟩ : ∃ t, rsP ws pc = t := ⟨_, rfl⟩
          have HT0 : Aside0 (([] ++ (rlP (rqsP ws) nS.toNat q0).1, (rlP (rqsP ws) nS.toNat q0).2) = tot) := ⟨by rw [← htot, HTS.out]; rfl⟩
          have HTOT := Aside0.mk htot
          clear htot HTS
          go_upto_block 0 with fail
          go_cut [] (fun wx => ∃ (As : Option Addr) (ns ds : Nat), Aside0 (RJ w wx g b ws tot.2 (.slice P0 n0 d0) (.slice P1 n1 d1) (.int .i64 l0) (.slice P2 n2 d2) (.int .i64 l1) (.slice P3 n3 d3) (.slice As ns ds) (.slice none 0 0)) ∧ Aside0 (IsOwn wx (b + 1) cf #[.slice P0 n0 d0, .slice P1 n1 d1, .int .i64 l0, .slice P2 n2 d2, .int .i64 l1, .slice P3 n3 d3]) ∧ Aside0 (Kd.R (Kd.slice 90 k90) 87 wx (b + 1) (fun j => b + 1 ≤ j) (.slice As ns ds) tot.1))
          case first =>
            go_wp2_with fail
            go_loopw [10] (fun v wr => ∃ (x : Int) (k : Nat) (As : Option Addr) (ns ds : Nat) (L : List (List Req)) (q : Pl), 0 ≤ x ∧ x ≤ nS ∧ v = .int .i64 x ∧ Aside0 ((k : Int) = nS - x) ∧ Aside0 (q.a ≤ ws.length) ∧ Aside0 (RJ w wr g b ws q (.slice P0 n0 d0) (.slice P1 n1 d1) (.int .i64 l0) (.slice P2 n2 d2) (.int .i64 l1) (.slice P3 n3 d3) (.slice As ns ds) (.slice none 0 0)) ∧ Aside0 (IsOwn wr (b + 1) cf #[.slice P0 n0 d0, .slice P1 n1 d1, .int .i64 l0, .slice P2 n2 d2, .int .i64 l1, .slice P3 n3 d3]) ∧ Aside0 (Kd.R (Kd.slice 90 k90) 87 wr (b + 1) (fun j => b + 1 ≤ j) (.slice As ns ds) L) ∧ Aside0 ((L ++ (rlP (rqsP ws) k q).1, (rlP (rqsP ws) k q).2) = tot) ∧ Aside0 ((L.length : Int) ≤ x)) (fun v _ => (nS - intOf v).toNat)
            case atStart => exact ⟨0, nS.toNat, none, 0, 0, [], q0, Int.le_refl _, HNN.out.1, rfl, ⟨by have := HNN.out; omega⟩, HA6, HX6, HO6, ⟨Kd.R_nil _ _ _ _ _⟩, HT0, ⟨by simp⟩⟩
            case round =>
              clear HX6 HO6 HT0 HA6
              obtain ⟨x, k, As, ns, ds, L, q, hx0, hx1, rfl, HK, HA, HX, HO, HS, HT, HL⟩ := hrel
              by_cases hlt : x < nS
              · have hd : decide (x < nS) = true := decide_eq_true hlt
                have hce := HX.out.ce
                by_cases he : q.e = 0
                · have e0 : (q.e == 0) = true := by simp [he]
                  obtain ⟨k, rfl⟩ : ∃ j, k = j + 1 := ⟨k - 1, by have := HK.out; omega⟩
                  have HT2 : Aside0 ((L ++ [(rqsP ws q).1] ++ (rlP (rqsP ws) k (rqsP ws q).2).1, (rlP (rqsP ws) k (rqsP ws q).2).2) = tot) := ⟨by rw [← HT.out, rlP_step _ _ he]; simp⟩
                  have hni := rcV_le HW.out q.a q.e 64 (by decide)
                  obtain ⟨nI, hnI⟩ : ∃ n, rcV ws q.a q.e 64 = n := ⟨_, rfl⟩
                  obtain ⟨qc, hqc⟩ : ∃ r, plC ws q 64 = r := ⟨_, rfl⟩
                  obtain ⟨ti, hti⟩ : ∃ r, rqsP ws q = r := ⟨_, rfl⟩
                  have HTI : Aside0 (([] ++ (rlP (rrP ws) nI.toNat qc).1, (rlP (rrP ws) nI.toNat qc).2) = ti) := ⟨by rw [← hti, ← hnI, ← hqc]; rfl⟩
                  have HAC : Aside0 (qc.a ≤ ws.length) := ⟨by rw [← hqc]; exact rnA_le ws _ _ HA.out⟩
                  have HAI : Aside0 (ti.2.a ≤ ws.length) := ⟨by rw [← hti]; exact rlsP_le (fun p h => rrP_le h) 64 q HA.out⟩
                  have HC2 := Aside0.mk (HCN.out q 64 nI qc HA.out hnI hqc)
                  have HK2 : Aside0 ((k : Int) = nS - (x + 1)) := ⟨by have := HK.out; omega⟩
                  rw [hnI] at hni
                  rw [hti] at HT2
                  have HNI := Aside0.mk hni
                  rw [he] at hce
                  clear hni hnI hqc hti he HK HT HA
                  go_wp2_with fail
                  refine (HC2.out _ HX.out.rbx).mono ?_
                  rintro e w2 ⟨rfl, h1, hk⟩
                  have HLT := Aside0.mk HX.out.lt2
                  have HX2 := Aside0.mk (HX.out.step (p' := qc) h1)
                  have HO2 := Aside0.mk (IsOwn.keep HO.out h1.keep (Nat.lt_succ_of_lt HLT.out))
                  have hS2 := Kd.R_keep HS.out h1.keep (fun j hj => Nat.ne_of_gt (Nat.lt_of_lt_of_le (Nat.lt_succ_of_lt HLT.out) hj))
                  have HS2 := Aside0.mk (Kd.R_mono (ok' := fun j => b + 1 ≤ j ∧ j < w2.heap.size) (Kd.R_bound hS2) (fun j hj => ⟨hj.1, hj.2.2.1⟩))
                  have HB2 := Aside0.mk HX2.out.size
                  have HZ2 : Aside0 (w2.heap.size ≤ w2.heap.size) := ⟨Nat.le_refl _⟩
                  generalize hB2 : w2.heap.size = B2 at HS2 HB2 HZ2
                  have HZ3 : Aside0 (B2 ≤ w2.heap.size) := ⟨Nat.le_of_eq hB2.symm⟩
                  clear h1 hk HX HO HS hce hS2 HC2 HZ2 hB2
                  go_upto_block 2 with fail
                  go_cut [12] (fun s12 wx => ∃ (Ai : Option Addr) (ni ci : Nat), s12 = .slice Ai ni ci ∧ Aside0 (RJ w wx g b ws ti.2 (.slice P0 n0 d0) (.slice P1 n1 d1) (.int .i64 l0) (.slice P2 n2 d2) (.int .i64 l1) (.slice P3 n3 d3) (.slice As ns ds) (.slice none 0 0)) ∧ Aside0 (IsOwn wx (b + 1) cf #[.slice P0 n0 d0, .slice P1 n1 d1, .int .i64 l0, .slice P2 n2 d2, .int .i64 l1, .slice P3 n3 d3]) ∧ Aside0 (B2 ≤ wx.heap.size) ∧ Aside0 (Kd.R (Kd.slice 90 k90) 87 wx (b + 1) (fun j => b + 1 ≤ j ∧ j < B2) (.slice As ns ds) L) ∧ Aside0 (Kd.R k90 90 wx B2 (fun j => B2 ≤ j) (.slice Ai ni ci) ti.1))
                  case first =>
                    have hu := Try.underlying87
                    go_wp2_with fail
                    go_loopw [12, 13] (fun v12 v13 wi => ∃ (y : Int) (kk : Nat) (Ai : Option Addr) (ni ci : Nat) (Li : List Req) (qi : Pl), 0 ≤ y ∧ y ≤ nI ∧ v12 = .slice Ai ni ci ∧ v13 = .int .i64 y ∧ Aside0 ((kk : Int) = nI - y) ∧ Aside0 (qi.a ≤ ws.length) ∧ Aside0 (RJ w wi g b ws qi (.slice P0 n0 d0) (.slice P1 n1 d1) (.int .i64 l0) (.slice P2 n2 d2) (.int .i64 l1) (.slice P3 n3 d3) (.slice As ns ds) (.slice none 0 0)) ∧ Aside0 (IsOwn wi (b + 1) cf #[.slice P0 n0 d0, .slice P1 n1 d1, .int .i64 l0, .slice P2 n2 d2, .int .i64 l1, .slice P3 n3 d3]) ∧ Aside0 (B2 ≤ wi.heap.size) ∧ Aside0 (Kd.R (Kd.slice 90 k90) 87 wi (b + 1) (fun j => b + 1 ≤ j ∧ j < B2) (.slice As ns ds) L) ∧ Aside0 (Kd.R k90 90 wi B2 (fun j => B2 ≤ j) (.slice Ai ni ci) Li) ∧ Aside0 ((Li ++ (rlP (rrP ws) kk qi).1, (rlP (rrP ws) kk qi).2) = ti) ∧ Aside0 ((Li.length : Int) ≤ y)) (fun _ v _ => (nI - intOf v).toNat)
                    case atStart => exact ⟨0, nI.toNat, none, 0, 0, [], qc, Int.le_refl _, HNI.out.1, rfl, rfl, ⟨by have := HNI.out; omega⟩, HAC, HX2, HO2, HZ3, HS2, ⟨Kd.R_nil _ _ _ _ _⟩, HTI, ⟨by simp⟩⟩
                    case round =>
                      clear HX2 HO2 HS2 HTI HAC HZ3
                      obtain ⟨y, kk, Ai, ni, ci, Li, qi, hy0, hy1, rfl, rfl, HKK, HAQ, HXi, HOi, HBi, HSi, HRi, HTi, HLi⟩ := hrel
                      have hce := HXi.out.ce
                      by_cases hlti : y < nI
                      · have hd1 : decide (y < nI) = true := decide_eq_true hlti
                        by_cases hei : qi.e = 0
                        · have e1 : (qi.e == 0) = true := by simp [hei]
                          obtain ⟨kk, rfl⟩ : ∃ j, kk = j + 1 := ⟨kk - 1, by have := HKK.out; omega⟩
                          have HTi2 : Aside0 ((Li ++ [(rrP ws qi).1] ++ (rlP (rrP ws) kk (rrP ws qi).2).1, (rlP (rrP ws) kk (rrP ws qi).2).2) = ti) := ⟨by rw [← HTi.out, rlP_step _ _ hei]; simp⟩
                          have HRQ := Aside0.mk (rrequest_calls w wr g ws qi HW.out HLB.out HAQ.out HXi.out.rb HXi.out.bel)
                          have HAQ2 : Aside0 ((rrP ws qi).2.a ≤ ws.length) := ⟨rrP_le HAQ.out⟩
                          have HKK2 : Aside0 ((kk : Int) = nI - (y + 1)) := ⟨by have := HKK.out; omega⟩
                          rw [hei] at hce
                          clear hei HTi HKK HAQ
                          generalize hrr : rrP ws qi = rr at *
                          clear hrr
                          go_wp2_with fail
                          refine HRQ.out.mono ?_
                          rintro e w3 ⟨Ad, nd, cd, rfl, hod, hr⟩
                          have HX3 := Aside0.mk (HXi.out.step (p' := rr.2) hr)
                          have HO3 := Aside0.mk (IsOwn.keep HOi.out hr.keep (Nat.lt_succ_of_lt HLT.out))
                          have HS3 := Aside0.mk (Kd.R_keep HSi.out hr.keep (fun j hj => Nat.ne_of_gt (Nat.lt_of_lt_of_le (Nat.lt_succ_of_lt HLT.out) hj.1)))
                          have HR3 := Aside0.mk (Kd.R_keep HRi.out hr.keep (fun j hj => Nat.ne_of_gt (Nat.lt_of_lt_of_le (Nat.lt_of_lt_of_le (Nat.lt_succ_of_lt HLT.out) HB2.out) hj)))
                          have hsz3 : B2 ≤ w3.heap.size := Nat.le_trans HBi.out hr.keep.1
                          have HSZ3 := Aside0.mk hsz3
                          have hlen : Li.length ≤ 4294967295 := by have := HLi.out; have := HNI.out; omega
                          have hown : ∀ k, wr.heap.size ≤ k → B2 ≤ k ∧ some k ≠ (Value.slice Ai ni ci).ownBlock := fun k hk => ⟨Nat.le_trans HBi.out hk, fun e => Nat.not_le.mpr ((Kd.R_bound HRi.out).1 k e.symm).2.2.1 hk⟩
                          have hkp := HBi.out
                          clear hr HRi HSi HOi HXi HRQ hce
                          go_wp2_with (at_builtin; refine Kd.R_append k90 (w0 := w3) B2 rfl (.tmp 90) (.tmp 93) 87 90 (.agg #[.int .i64 0, .int .i64 0, .int .u64 0, .slice none 0 0]) 48 rfl hu info_Q rfl (by decide) (by decide) _ Li rr.1 [.int .i64 rr.1.op, .int .i64 rr.1.port, .int .u64 rr.1.addr, .slice Ad nd cd] (fun j => B2 ≤ j) (fun j => wr.heap.size ≤ j) rfl rfl ?aP ?aQ ?aF ?aO ?aB ?aS ?aL ?_)
                          case aP => exact k90.M_lower hkp (k90_mkM hod)
                          case aQ => exact hown
                          case aF => exact fun k hk => Nat.le_trans hsz3 hk
                          case aO => exact HR3.out
                          case aB => exact Below.refl _ _
                          case aS => exact hsz3
                          case aL => omega
                          intro v1 w6 ho hb hg hat
                          obtain ⟨A6, n6, c6, rfl⟩ : ∃ A n c, v1 = .slice A n c := by
                            obtain ⟨A, c, h⟩ := Kd.R_slice ho
                            exact ⟨A, _, c, h⟩
                          have HX6 := Aside0.mk (HX3.out.to hb HB2.out hsz3)
                          have HO6 := Aside0.mk (IsOwn.by2 HO3.out HR3.out (by decide) (by decide) (by decide) hg)
                          have HS6 := Aside0.mk (Kd.R_step HS3.out (fun j hj _ => hb.block j hj.2))
                          have HR6 := Aside0.mk ho
                          have HB6 : Aside0 (B2 ≤ w6.heap.size) := ⟨Nat.le_trans hsz3 hb.size⟩
                          have HL6 : Aside0 (((Li ++ [rr.1]).length : Int) ≤ y + 1) := ⟨by have := HLi.out; simp; omega⟩
                          have hw1 := i64_n hy0 hlti (Int.le_trans HNI.out.2 (by decide))
                          clear ho hb hg hat hlen hsz3 hown hkp hod HX3 HO3 HS3 HR3
                          go_wp2
                          go_roundw
                          case rel => exact ⟨y + 1, kk, A6, n6, c6, Li ++ [rr.1], rr.2, Int.le_trans hy0 (Int.le_of_lt (Int.lt_succ y)), Int.add_one_le_of_lt hlti, rfl, by go_num, HKK2, HAQ2, HX6, HO6, HB6, HS6, HR6, HTi2, HL6⟩
                          case measure => first | exact meas64 hy0 hlti | (rw [hw1]; exact meas64 hy0 hlti)
                        · have e1 : (qi.e == 0) = false := by simp [hei]
                          have HE : Aside0 (ti = (Li, qi)) := ⟨by rw [← HTi.out, rlP_bad _ _ hei]; simp⟩
                          clear hei HTi
                          go_wp2
                          go_meet
                          exact ⟨Ai, ni, ci, rfl, ⟨by rw [HE.out]; exact HXi.out⟩, HOi, HBi, HSi, ⟨by rw [HE.out]; exact HRi.out⟩⟩
                      · have hd1 : decide (y < nI) = false := decide_eq_false hlti
                        have hk : kk = 0 := by have := HKK.out; omega
                        subst hk
                        have HE : Aside0 (ti = (Li, qi)) := ⟨by rw [← HTi.out]; simp [rlP]⟩
                        clear HTi
                        go_wp2
                        go_meet
                        exact ⟨Ai, ni, ci, rfl, ⟨by rw [HE.out]; exact HXi.out⟩, HOi, HBi, HSi, ⟨by rw [HE.out]; exact HRi.out⟩⟩
                  case rest =>
                    obtain ⟨Ai, ni, ci, rfl, HX7, HO7, HB7, HS7, HR7⟩ := hcut
                    have hu := Try.underlying45
                    have hc6 := HX7.out.c6
                    have hf6 := HX7.out.f6
                    have hlen : L.length ≤ 4294967295 := by have := HL.out; have := HNN.out; omega
                    have hown : ∀ k, B2 ≤ k → b + 1 ≤ k ∧ some k ≠ (Value.slice As ns ds).ownBlock := fun k hk => ⟨Nat.le_trans HB2.out hk, fun e => Nat.not_le.mpr (HS7.out.1 k e.symm).2 hk⟩
                    have hbb := HB2.out
                    have hsz := HX7.out.size
                    clear HX2 HO2 HS2 HTI HAC HZ3
                    go_wp2_with (at_builtin; refine Kd.R_append (Kd.slice 90 k90) (w0 := wc) (b + 1) rfl (.tmp 96) (.tmp 98) 45 87 (.slice none 0 0) 24 rfl hu info_L rfl (by decide) (by decide) _ L ti.1 [.slice Ai ni ci] (fun j => b + 1 ≤ j) (fun j => B2 ≤ j) rfl rfl ?bP ?bQ ?bF ?bO ?bB ?bS ?bL ?_)
                    case bP => exact (Kd.slice 90 k90).M_lower hbb ⟨_, rfl, HR7.out⟩
                    case bQ => exact hown
                    case bF => exact fun k hk => Nat.le_trans hsz hk
                    case bO => exact Kd.R_mono HS7.out (fun j hj => hj.1)
                    case bB => exact Below.refl _ _
                    case bS => exact hsz
                    case bL => omega
                    intro v1 w8 ho hb hg hat
                    obtain ⟨A8, n8, c8, rfl⟩ : ∃ A n c, v1 = .slice A n c := by
                      obtain ⟨A, c, h⟩ := Kd.R_slice ho
                      exact ⟨A, _, c, h⟩
                    have HX8 := Aside0.mk (HX7.out.to hb (Nat.le_refl _) hsz)
                    have HO8 := Aside0.mk (IsOwn.by2 HO7.out HS7.out (by decide) (by decide) (by decide) hg)
                    have HX9 := Aside0.mk (HX8.out.s6 (.slice A8 n8 c8))
                    have HO9 := Aside0.mk (IsOwn.far (i := 6) HO8.out (Nat.lt_succ_self b) (.slice A8 n8 c8))
                    have HS9 := Aside0.mk (Kd.R_far (p := ⟨b, 6, none⟩) ho (fun j hj => Nat.ne_of_gt hj) (.slice A8 n8 c8))
                    have HL9 : Aside0 (((L ++ [ti.1]).length : Int) ≤ x + 1) := ⟨by have := HL.out; simp; omega⟩
                    have hw1 := i64_n hx0 hlt (Int.le_trans HNN.out.2 (by decide))
                    clear hc6 hf6
                    have hc8 := HX8.out.c6
                    have hf8 := HX8.out.f6
                    clear ho hb hg hat hlen hsz hown hbb HX7 HO7 HS7 HR7 HX8 HO8
                    go_wp2
                    go_roundw
                    case rel => exact ⟨x + 1, k, A8, n8, c8, L ++ [ti.1], ti.2, Int.le_trans hx0 (Int.le_of_lt (Int.lt_succ x)), Int.add_one_le_of_lt hlt, by go_num, HK2, HAI, HX9, HO9, HS9, HT2, HL9⟩
                    case measure => first | exact meas64 hx0 hlt | (rw [hw1]; exact meas64 hx0 hlt)
                · have e0 : (q.e == 0) = false := by simp [he]
                  have HE : Aside0 (tot = (L, q)) := ⟨by rw [← HT.out, rlP_bad _ _ he]; simp⟩
                  clear he HT
                  go_wp2
                  go_meet
                  exact ⟨As, ns, ds, ⟨by rw [HE.out]; exact HX.out⟩, HO, ⟨by rw [HE.out]; exact HS.out⟩⟩
              · have hd : decide (x < nS) = false := decide_eq_false hlt
                have hk : k = 0 := by have := HK.out; omega
                subst hk
                have HE : Aside0 (tot = (L, q)) := ⟨by rw [← HT.out]; simp [rlP]⟩
                clear HT
                go_wp2
                go_meet
                exact ⟨As, ns, ds, ⟨by rw [HE.out]; exact HX.out⟩, HO, ⟨by rw [HE.out]; exact HS.out⟩⟩
          case rest =>
            obtain ⟨As, ns, ds, HX7, HO7, HS7⟩ := hcut
            have hnb := rcV_le HW.out tot.2.a tot.2.e 4096 (by decide)
            have HAT : Aside0 (tot.2.a ≤ ws.length) := ⟨by rw [← HTOT.out]; exact HAS.out⟩
            obtain ⟨nA, hnA⟩ : ∃ n, rcV ws tot.2.a tot.2.e 4096 = n := ⟨_, rfl⟩
            obtain ⟨qa, hqa⟩ : ∃ q, plC ws tot.2 4096 = q := ⟨_, rfl⟩
            obtain ⟨ta, hta⟩ : ∃ t, raP ws tot.2 = t := ⟨_, rfl⟩
            have HT0 : Aside0 (([] ++ (rlP (fun p => (plV ws p, plN ws p)) nA.toNat qa).1, (rlP (fun p => (plV ws p, plN ws p)) nA.toNat qa).2) = ta) := ⟨by rw [← hta, ← hnA, ← hqa]; rfl⟩
            have HC3 := Aside0.mk (HCN.out tot.2 4096 nA qa HAT.out hnA hqa)
            have HAQ : Aside0 (qa.a ≤ ws.length) := ⟨by rw [← hqa]; exact rnA_le ws _ _ HAT.out⟩
            rw [hnA] at hnb
            have HNA := Aside0.mk hnb
            have HJ2 : Aside0 (je = (if ta.2.e = 0 ∧ ta.2.a < lw then 9 else ta.2.e) ∧ jj = (if je = 0 then ⟨cf, tot.1, ta.1⟩ else zjob)) := ⟨by
              have h : je = (if (raP ws (rsP ws pc).2).2.e = 0 ∧ (raP ws (rsP ws pc).2).2.a < ws.length then 9 else (raP ws (rsP ws pc).2).2.e) ∧ jj = (if je = 0 then ⟨cf, (rsP ws pc).1, (raP ws (rsP ws pc).2).1⟩ else zjob) := HJ.out
              rw [HTOT.out, hta, HLW.out] at h
              exact h⟩
            clear hnb hnA hqa hta HJ HTOT HX6 HO6 HAS HNN HCN HQ0
            go_wp2_with fail
            refine (HC3.out _ HX7.out.rbx).mono ?_
            rintro e w8 ⟨rfl, h1, hk⟩
            have HLT := Aside0.mk HX7.out.lt2
            have HX8 := Aside0.mk (HX7.out.step (p' := qa) h1)
            have HO8 := Aside0.mk (IsOwn.keep HO7.out h1.keep (Nat.lt_succ_of_lt HLT.out))
            have HS8 := Aside0.mk (Kd.R_keep HS7.out h1.keep (fun j hj => Nat.ne_of_gt (Nat.lt_of_lt_of_le (Nat.lt_succ_of_lt HLT.out) hj)))
            clear h1 hk HX7 HO7 HS7 HC3
            go_upto_block 4 with fail
            go_cut [] (fun wx => ∃ (Aa : Option Addr) (na da : Nat), Aside0 (RJ w wx g b ws ta.2 (.slice P0 n0 d0) (.slice P1 n1 d1) (.int .i64 l0) (.slice P2 n2 d2) (.int .i64 l1) (.slice P3 n3 d3) (.slice As ns ds) (.slice Aa na da)) ∧ Aside0 (IsOwn wx (b + 1) cf #[.slice P0 n0 d0, .slice P1 n1 d1, .int .i64 l0, .slice P2 n2 d2, .int .i64 l1, .slice P3 n3 d3]) ∧ Aside0 (Kd.R (Kd.slice 90 k90) 87 wx (b + 1) (fun j => b + 1 ≤ j) (.slice As ns ds) tot.1) ∧ Aside0 (Kd.R (Kd.int .i64) 3 wx (b + 1) (fun j => b + 1 ≤ j) (.slice Aa na da) ta.1))
            case first =>
              have hu := Try.underlying46
              go_wp2_with fail
              go_loopw [15] (fun v wr => ∃ (x : Int) (k : Nat) (Aa : Option Addr) (na da : Nat) (L : List Int) (q : Pl), 0 ≤ x ∧ x ≤ nA ∧ v = .int .i64 x ∧ Aside0 ((k : Int) = nA - x) ∧ Aside0 (q.a ≤ ws.length) ∧ Aside0 (RJ w wr g b ws q (.slice P0 n0 d0) (.slice P1 n1 d1) (.int .i64 l0) (.slice P2 n2 d2) (.int .i64 l1) (.slice P3 n3 d3) (.slice As ns ds) (.slice Aa na da)) ∧ Aside0 (IsOwn wr (b + 1) cf #[.slice P0 n0 d0, .slice P1 n1 d1, .int .i64 l0, .slice P2 n2 d2, .int .i64 l1, .slice P3 n3 d3]) ∧ Aside0 (Kd.R (Kd.slice 90 k90) 87 wr (b + 1) (fun j => b + 1 ≤ j) (.slice As ns ds) tot.1) ∧ Aside0 (Kd.R (Kd.int .i64) 3 wr (b + 1) (fun j => b + 1 ≤ j) (.slice Aa na da) L) ∧ Aside0 ((L ++ (rlP (fun p => (plV ws p, plN ws p)) k q).1, (rlP (fun p => (plV ws p, plN ws p)) k q).2) = ta) ∧ Aside0 ((L.length : Int) ≤ x)) (fun v _ => (nA - intOf v).toNat)
              case atStart => exact ⟨0, nA.toNat, none, 0, 0, [], qa, Int.le_refl _, HNA.out.1, rfl, ⟨by have := HNA.out; omega⟩, HAQ, HX8, HO8, HS8, ⟨Kd.R_nil _ _ _ _ _⟩, HT0, ⟨by simp⟩⟩
              case round =>
                clear HX8 HO8 HS8 HT0 HAQ
                obtain ⟨x, k, Aa, na, da, L, q, hx0, hx1, rfl, HK, HA, HX, HO, HS, HR, HT, HL⟩ := hrel
                have hce := HX.out.ce
                by_cases hlt : x < nA
                · have hd : decide (x < nA) = true := decide_eq_true hlt
                  by_cases he : q.e = 0
                  · have e0 : (q.e == 0) = true := by simp [he]
                    obtain ⟨k, rfl⟩ : ∃ j, k = j + 1 := ⟨k - 1, by have := HK.out; omega⟩
                    have HT2 : Aside0 ((L ++ [plV ws q] ++ (rlP (fun p => (plV ws p, plN ws p)) k (plN ws q)).1, (rlP (fun p => (plV ws p, plN ws p)) k (plN ws q)).2) = ta) := ⟨by rw [← HT.out, rlP_step _ _ he]; simp⟩
                    have HK2 : Aside0 ((k : Int) = nA - (x + 1)) := ⟨by have := HK.out; omega⟩
                    have HA2 : Aside0 ((plN ws q).a ≤ ws.length) := ⟨plN_le HA.out⟩
                    have HCON := Aside0.mk (fun (X : World) (h : Rb w X g ws q.a q.e X) => pl_next w g ws HLB.out q HA.out X X h)
                    have hcv : IntKind.i64.wrap (plV ws q) = plV ws q := i64_of (rnV_le HW.out q.a q.e)
                    have HLEN : Aside0 (L.length ≤ 4096) := ⟨by have := HL.out; have := HNA.out; omega⟩
                    have HXd := Aside0.mk HX.out.drew
                    have hdw := below_drew1 (Below.refl wr.heap.size wr)
                    have HOd := Aside0.mk (HO.out.step (fun j _ hj => hdw.block j hj))
                    have HSd := Aside0.mk (Kd.R_below HS.out hdw)
                    have HRd := Aside0.mk (Kd.R_below HR.out hdw)
                    rw [he] at hce
                    clear he HT HK HA HX HO HS HR hdw
                    generalize plV ws q = vq at *
                    generalize plN ws q = qn at *
                    go_upto_region 26 with fail
                    refine start_ (n := 9) (S := fun w' => w'.cell? ⟨b, 7, none⟩ = some (.slice Aa na da)) (ds := [8]) #[false, false, false, false, false, false, false, false, false] (by kernel_rfl) rfl rfl (HXd.out.c7) (fun hHeld => ?_)
                    refine pure_ (i := 0) (N := some 115) (v := ?_) (a' := ?_) #[true, false, false, false, false, false, false, false, false] rfl rfl (by kernel_rfl) (fun _ _ _ h => h) (Or.inl ⟨by rfl, ?_⟩) ?_ ?_
                    rotate_left
                    · intro w'
                      go_simp
                      with_reducible rfl
                    rotate_left
                    · simp only [Act.put, List.setIfInBounds_toArray, List.set_cons_zero, List.set_cons_succ, i64_w, i32_w]
                      rfl
                    refine pure_ (i := 2) (N := some 117) (v := ?_) (a' := ?_) #[true, false, true, false, false, false, false, false, false] rfl rfl (by kernel_rfl) (fun _ _ _ h => h) (Or.inl ⟨by rfl, ?_⟩) ?_ ?_
                    rotate_left
                    · intro w'
                      go_simp
                      with_reducible rfl
                    rotate_left
                    · simp only [Act.put, List.setIfInBounds_toArray, List.set_cons_zero, List.set_cons_succ, i64_w, i32_w]
                      rfl
                    refine take_ (i := 1) (N := some 116) (v := ?_) (a' := ?_) #[true, true, true, false, false, false, false, false, false] rfl rfl (by kernel_rfl) (fun _ _ _ h => h) (Or.inl ⟨by rfl, ?_⟩) hHeld ?_ ?_
                    rotate_left
                    · intro w' s0
                      go_simp
                      with_reducible rfl
                    rotate_left
                    · simp only [Act.put, List.setIfInBounds_toArray, List.set_cons_zero, List.set_cons_succ, i64_w, i32_w]
                      rfl
                    refine one_ (i := 3) (N := some 118) #[true, true, true, true, false, false, false, false, false] rfl rfl (by kernel_rfl) (by decide) (fun K hK => ?_)
                    refine goes_ Try.func57 (by kernel_rfl) rfl #[.pointer (some ⟨g, 0, none⟩)] (by rfl) rfl rfl (by simp only [List.map_toArray, List.map_cons, List.map_nil]; rfl) ?_
                    with_reducible refine (HCON.out _ HXd.out.rbx).mono ?_
                    rintro e w3 ⟨rfl, h1, hk⟩
                    refine ⟨_, rfl, ?_⟩
                    have HX3 := Aside0.mk (HXd.out.step (p' := qn) h1)
                    have HO3 := Aside0.mk (IsOwn.keep HOd.out h1.keep (Nat.lt_succ_of_lt HLT.out))
                    have HS3 := Aside0.mk (Kd.R_keep HSd.out h1.keep (fun j hj => Nat.ne_of_gt (Nat.lt_of_lt_of_le (Nat.lt_succ_of_lt HLT.out) hj)))
                    have HR3 := Aside0.mk (Kd.R_keep HRd.out h1.keep (fun j hj => Nat.ne_of_gt (Nat.lt_of_lt_of_le (Nat.lt_succ_of_lt HLT.out) hj)))
                    clear h1 hk
                    refine hK.out _ _ (HX3.out.c7) (fun hHeld => ?_)
                    clear hK K
                    refine norm_ (a' := ?_) ?_ ?_
                    rotate_left
                    · show Act.put _ (some 118) _ = _
                      simp only [Act.put, List.setIfInBounds_toArray, List.set_cons_zero, List.set_cons_succ, i64_w, i32_w]
                      rfl
                    refine pure_ (i := 4) (N := some 119) (v := ?_) (a' := ?_) #[true, true, true, true, true, false, false, false, false] rfl rfl (by kernel_rfl) (fun _ _ _ h => h) (Or.inl ⟨by rfl, ?_⟩) ?_ ?_
                    rotate_left
                    · intro w'
                      go_simp
                      with_reducible rfl
                    rotate_left
                    · simp only [Act.put, List.setIfInBounds_toArray, List.set_cons_zero, List.set_cons_succ, i64_w, i32_w]
                      rfl
                    refine one_ (i := 5) (N := some 120) #[true, true, true, true, true, true, false, false, false] rfl rfl (by kernel_rfl) (by decide) (fun K hK => ?_)
                    refine value_ (w1 := ?_) (v := ?_) (by rfl) rfl ?_ ?_
                    rotate_left 2
                    · go_simp
                      constructor
                      · rfl
                      · rfl
                    refine hK.out _ _ ((blk_cell (blk_alloc HX3.out.job _) 7).trans rfl) (fun hHeld => ?_)
                    clear hK K
                    refine norm_ (a' := ?_) ?_ ?_
                    rotate_left
                    · show Act.put _ (some 120) _ = _
                      simp only [Act.put, List.setIfInBounds_toArray, List.set_cons_zero, List.set_cons_succ, i64_w, i32_w]
                      rfl
                    refine one_ (i := 6) (N := some 121) #[true, true, true, true, true, true, true, false, false] rfl rfl (by kernel_rfl) (by decide) (fun K hK => ?_)
                    refine Kd.R_append_step (Kd.int .i64) (w0 := w3) (b + 1) (by rfl) (.tmp 116) (.tmp 120) 46 3 (.int .i64 0) 8 rfl hu info_I rfl (by decide) (by decide) _ L vq [.int .i64 vq] (fun j => b + 1 ≤ j) (fun _ => False) rfl rfl ?cP (fun _ h => h.elim) ?cF ?cO ?cB ?cS ?cL ?_
                    (case cP => exact rfl)
                    (case cF => exact fun k hk => Nat.le_trans HX3.out.size hk)
                    (case cO => exact HR3.out)
                    (case cB => exact Below.refl _ _)
                    (case cS => exact HX3.out.size)
                    (case cL => have := HLEN.out; omega)
                    intro v1 w6 ho hb hg hat
                    obtain ⟨A6, n6, c6, rfl⟩ : ∃ A n c, v1 = .slice A n c := by obtain ⟨A, c, h⟩ := Kd.R_slice ho; exact ⟨A, _, c, h⟩
                    have HX6 := Aside0.mk (HX3.out.to hb (Nat.le_refl _) HX3.out.size)
                    have HO6 := Aside0.mk (IsOwn.by2 HO3.out HR3.out (by decide) (by decide) (by decide) hg)
                    have HS6 := Aside0.mk (R_by2 HS3.out HR3.out (by decide) hg)
                    have HR6 := Aside0.mk ho
                    clear ho hb hg hat
                    refine hK.out _ _ (HX6.out.c7) (fun hHeld => ?_)
                    clear hK K
                    refine norm_ (a' := ?_) ?_ ?_
                    rotate_left
                    · show Act.put _ (some 121) _ = _
                      simp only [Act.put, List.setIfInBounds_toArray, List.set_cons_zero, List.set_cons_succ, i64_w, i32_w]
                      rfl
                    refine pure_ (i := 7) (N := some 122) (v := ?_) (a' := ?_) #[true, true, true, true, true, true, true, true, false] rfl rfl (by kernel_rfl) (fun _ _ _ h => h) (Or.inl ⟨by rfl, ?_⟩) ?_ ?_
                    rotate_left
                    · intro w'
                      go_simp
                      with_reducible rfl
                    rotate_left
                    · simp only [Act.put, List.setIfInBounds_toArray, List.set_cons_zero, List.set_cons_succ, i64_w, i32_w]
                      rfl
                    refine last_ (i := 8) (N := none) #[true, true, true, true, true, true, true, true, true] rfl rfl (by kernel_rfl) (by decide) (fun K hK => ?_)
                    have hc6 := HX6.out.c7
                    have hf6 := HX6.out.f7
                    refine skip_ (w1 := ?_) (by rfl) rfl ?_ ?_
                    rotate_left
                    · go_simp
                      rfl
                    refine hK.out _ _ ?_
                    clear hK K
                    refine done_ (by kernel_rfl) ?_
                    have HXn := Aside0.mk (HX6.out.s7 (.slice A6 n6 c6))
                    have HOn := Aside0.mk (IsOwn.far (i := 7) HO6.out (Nat.lt_succ_self b) (.slice A6 n6 c6))
                    have HSn := Aside0.mk (Kd.R_far (p := ⟨b, 7, none⟩) HS6.out (fun j hj => Nat.ne_of_gt hj) (.slice A6 n6 c6))
                    have HRn := Aside0.mk (Kd.R_far (p := ⟨b, 7, none⟩) HR6.out (fun j hj => Nat.ne_of_gt hj) (.slice A6 n6 c6))
                    have HLn : Aside0 (((L ++ [vq]).length : Int) ≤ x + 1) := ⟨by have := HL.out; simp; omega⟩
                    have hw1 := i64_n hx0 hlt HNA.out.2
                    clear HX6 HO6 HS6 HR6 hcv hc6 hf6
                    go_wp2
                    go_roundw
                    case rel => exact ⟨x + 1, k, A6, n6, c6, L ++ [vq], qn, Int.le_trans hx0 (Int.le_of_lt (Int.lt_succ x)), Int.add_one_le_of_lt hlt, by go_num, HK2, HA2, HXn, HOn, HSn, HRn, HT2, HLn⟩
                    case measure => first | exact meas64 hx0 hlt | (rw [hw1]; exact meas64 hx0 hlt)
                  · have e0 : (q.e == 0) = false := by simp [he]
                    have HE : Aside0 (ta = (L, q)) := ⟨by rw [← HT.out, rlP_bad _ _ he]; simp⟩
                    clear he HT
                    go_wp2
                    go_meet
                    exact ⟨Aa, na, da, ⟨by rw [HE.out]; exact HX.out⟩, HO, HS, ⟨by rw [HE.out]; exact HR.out⟩⟩
                · have hd : decide (x < nA) = false := decide_eq_false hlt
                  have hk : k = 0 := by have := HK.out; omega
                  subst hk
                  have HE : Aside0 (ta = (L, q)) := ⟨by rw [← HT.out]; simp [rlP]⟩
                  clear HT
                  go_wp2
                  go_meet
                  exact ⟨Aa, na, da, ⟨by rw [HE.out]; exact HX.out⟩, HO, HS, ⟨by rw [HE.out]; exact HR.out⟩⟩
            case rest =>
              obtain ⟨Aa, na, da, HX9, HO9, HS9, HR9⟩ := hcut
              clear HX8 HO8 HS8 HT0 HAQ
              obtain ⟨la, pf⟩ := ta
              obtain ⟨ap, ep⟩ := pf
              have HX9 : Aside0 (RJ w wc g b ws ⟨ap, ep⟩ (.slice P0 n0 d0) (.slice P1 n1 d1) (.int .i64 l0) (.slice P2 n2 d2) (.int .i64 l1) (.slice P3 n3 d3) (.slice As ns ds) (.slice Aa na da)) := HX9
              have HJ2 : Aside0 (je = (if ep = 0 ∧ ap < lw then 9 else ep) ∧ jj = (if je = 0 then ⟨cf, tot.1, la⟩ else zjob)) := HJ2
              have HR9 : Aside0 (Kd.R (Kd.int .i64) 3 wc (b + 1) (fun j => b + 1 ≤ j) (.slice Aa na da) la) := HR9
              by_cases he : ep = 0
              · have e0 : (ep == 0) = true := by simp [he]
                have hce : wc.cell? ⟨g, 2, none⟩ = some (.int .i64 ep) := HX9.out.ce
                have hca : wc.cell? ⟨g, 1, none⟩ = some (.int .i64 (ap : Int)) := HX9.out.ca
                have hfe := HX9.out.fe
                by_cases hlt : ap < lw
                · have HJJ : Aside0 (je = 9 ∧ jj = zjob) := ⟨by
                    obtain ⟨h1, h2⟩ := HJ2.out
                    have h3 : je = 9 := by rw [h1, if_pos ⟨he, hlt⟩]
                    exact ⟨h3, by rw [h2, h3, if_neg (by decide)]⟩⟩
                  have hd : decide (ap < lw) = true := decide_eq_true hlt
                  have HXE := Aside0.mk (HX9.out.setE 9)
                  rw [he] at hce
                  clear he hlt HJ2 HO9 HS9 HR9
                  go_upto_region 29 with fail
                  generalize wc.setCell ⟨g, 2, none⟩ (.int .i64 9) = wd at *
                  clear hce hca hfe hd HX9
                  have hce := HXE.out.ce
                  have e1 : ((9 : Int) != 0) = true := by decide
                  go_upto_region 30 with fail
                  clear hce
                  refine start_ (n := 7) (S := fun w' => w'.cell? ⟨g, 2, none⟩ = some (.int .i64 (9))) (ds := []) #[false, false, false, false, false, false, false] (by kernel_rfl) rfl rfl (HXE.out.drew.ce) (fun hHeld => ?_)
                  refine pure_ (i := 0) (N := some 145) (v := ?_) (a' := ?_) #[true, false, false, false, false, false, false] rfl rfl (by kernel_rfl) (fun _ _ _ h => h) (Or.inl ⟨by rfl, ?_⟩) ?_ ?_
                  rotate_left
                  · intro w'
                    go_simp
                    with_reducible rfl
                  rotate_left
                  · simp only [Act.put, List.setIfInBounds_toArray, List.set_cons_zero, List.set_cons_succ, i64_w, i32_w]
                    rfl
                  refine pure_ (i := 1) (N := some 146) (v := ?_) (a' := ?_) #[true, true, false, false, false, false, false] rfl rfl (by kernel_rfl) (fun _ _ _ h => h) (Or.inl ⟨by rfl, ?_⟩) ?_ ?_
                  rotate_left
                  · intro w'
                    go_simp
                    with_reducible rfl
                  rotate_left
                  · simp only [Act.put, List.setIfInBounds_toArray, List.set_cons_zero, List.set_cons_succ, i64_w, i32_w]
                    rfl
                  refine pure_ (i := 2) (N := some 147) (v := ?_) (a' := ?_) #[true, true, true, false, false, false, false] rfl rfl (by kernel_rfl) (fun _ _ _ h => h) (Or.inl ⟨by rfl, ?_⟩) ?_ ?_
                  rotate_left
                  · intro w'
                    go_simp
                    with_reducible rfl
                  rotate_left
                  · simp only [Act.put, List.setIfInBounds_toArray, List.set_cons_zero, List.set_cons_succ, i64_w, i32_w]
                    rfl
                  refine pure_ (i := 3) (N := some 148) (v := ?_) (a' := ?_) #[true, true, true, true, false, false, false] rfl rfl (by kernel_rfl) (fun _ _ _ h => h) (Or.inl ⟨by rfl, ?_⟩) ?_ ?_
                  rotate_left
                  · intro w'
                    go_simp
                    with_reducible rfl
                  rotate_left
                  · simp only [Act.put, List.setIfInBounds_toArray, List.set_cons_zero, List.set_cons_succ, i64_w, i32_w]
                    rfl
                  refine take_ (i := 4) (N := some 149) (v := ?_) (a' := ?_) #[true, true, true, true, true, false, false] rfl rfl (by kernel_rfl) (fun _ _ _ h => h) (Or.inl ⟨by rfl, ?_⟩) hHeld ?_ ?_
                  rotate_left
                  · intro w' s0
                    go_simp
                    with_reducible rfl
                  rotate_left
                  · simp only [Act.put, List.setIfInBounds_toArray, List.set_cons_zero, List.set_cons_succ, i64_w, i32_w]
                    rfl
                  refine one_ (i := 5) (N := none) #[true, true, true, true, true, true, false] rfl rfl (by kernel_rfl) (by decide) (fun K hK => ?_)
                  have hgd := HXE.out.res
                  have hy0 := (blk_cell hgd 0).trans rfl
                  have hy1 := (blk_cell hgd 1).trans rfl
                  have hy2 := (blk_cell hgd 2).trans rfl
                  have hy3 := (blk_cell hgd 3).trans rfl
                  have hy4 := (blk_cell hgd 4).trans rfl
                  have hy5 := (blk_cell hgd 5).trans rfl
                  have hy6 := (blk_cell hgd 6).trans rfl
                  have hy7 := (blk_cell hgd 7).trans rfl
                  have hyf0 := blk_frozen hgd 0
                  have hyf1 := blk_frozen hgd 1
                  have hyf2 := blk_frozen hgd 2
                  have hyf3 := blk_frozen hgd 3
                  have hyf4 := blk_frozen hgd 4
                  have hyf5 := blk_frozen hgd 5
                  have hyf6 := blk_frozen hgd 6
                  have hyf7 := blk_frozen hgd 7
                  refine skip_ (w1 := ?_) (by rfl) rfl ?_ ?_
                  rotate_left
                  · go_simp
                    rfl
                  refine hK.out _ _ ((IsRb.at HXE.out.rb (heap8d (Nat.ne_of_gt HXE.out.lt1))).c2.1) (fun hHeld => ?_)
                  clear hK K
                  refine pure_ (i := 6) (N := some 3) (v := ?_) (a' := ?_) #[true, true, true, true, true, true, true] rfl rfl (by kernel_rfl) (fun _ _ _ h => h) (Or.inl ⟨by rfl, ?_⟩) ?_ ?_
                  rotate_left
                  · intro w'
                    go_simp
                    with_reducible rfl
                  rotate_left
                  · simp only [Act.put, List.setIfInBounds_toArray, List.set_cons_zero, List.set_cons_succ, i64_w, i32_w]
                    rfl
                  refine done_ (by kernel_rfl) ?_
                  repeat go_step
                  have hfin := put8d HXE.out.res (.slice none 0 0) (.slice none 0 0) (.int .i64 0) (.slice none 0 0) (.int .i64 0) (.slice none 0 0) (.slice none 0 0) (.slice none 0 0)
                  have hbf := below8d HXE.out.bel (Nat.le_refl _) (.slice none 0 0) (.slice none 0 0) (.int .i64 0) (.slice none 0 0) (.int .i64 0) (.slice none 0 0) (.slice none 0 0) (.slice none 0 0)
                  generalize hWF : ((((((((wd.setCell ⟨w.heap.size, 0, none⟩ _).setCell _ _).setCell _ _).setCell _ _).setCell _ _).setCell _ _).setCell _ _).setCell _ _).drew = wz at *
                  have hz0 := (blk_cell hfin 0).trans rfl
                  have hz1 := (blk_cell hfin 1).trans rfl
                  have hz2 := (blk_cell hfin 2).trans rfl
                  have hz3 := (blk_cell hfin 3).trans rfl
                  have hz4 := (blk_cell hfin 4).trans rfl
                  have hz5 := (blk_cell hfin 5).trans rfl
                  have hz6 := (blk_cell hfin 6).trans rfl
                  have hz7 := (blk_cell hfin 7).trans rfl
                  (try simp only [Exit.inBlock, Exit.then])
                  refine bodyPost_ret (by simp [results, Try.results27, go_sem, hz0, hz1, hz2, hz3, hz4, hz5, hz6, hz7]; try rfl) rfl ?_
                  exact ⟨_, by rw [HJJ.out.1], by rw [HJJ.out.2]; exact jobOwn_zero _ _, hbf⟩
                · have HJJ : Aside0 (je = 0 ∧ jj = ⟨cf, tot.1, la⟩) := ⟨by
                    obtain ⟨h1, h2⟩ := HJ2.out
                    have h3 : je = 0 := by rw [h1, if_neg (fun h => hlt h.2)]; exact he
                    exact ⟨h3, by rw [h2, h3, if_pos rfl]⟩⟩
                  have hd : decide (ap < lw) = false := decide_eq_false hlt
                  rw [he] at hce
                  clear he hlt HJ2
                  go_upto_region 29 with fail
                  go_upto_if 144 with fail
                  go_upto_region 31 with fail
                  have hx0 := HX9.out.c0
                  have hx1 := HX9.out.c1
                  have hx2 := HX9.out.c2
                  have hx3 := HX9.out.c3
                  have hx4 := HX9.out.c4
                  have hx5 := HX9.out.c5
                  have hx6 := HX9.out.c6
                  have hx7 := HX9.out.c7
                  have hy0 := (blk_cell HX9.out.res 0).trans rfl
                  have hyf0 := blk_frozen HX9.out.res 0
                  have hy1 := (blk_cell HX9.out.res 1).trans rfl
                  have hyf1 := blk_frozen HX9.out.res 1
                  have hy2 := (blk_cell HX9.out.res 2).trans rfl
                  have hyf2 := blk_frozen HX9.out.res 2
                  have hy3 := (blk_cell HX9.out.res 3).trans rfl
                  have hyf3 := blk_frozen HX9.out.res 3
                  have hy4 := (blk_cell HX9.out.res 4).trans rfl
                  have hyf4 := blk_frozen HX9.out.res 4
                  have hy5 := (blk_cell HX9.out.res 5).trans rfl
                  have hyf5 := blk_frozen HX9.out.res 5
                  have hy6 := (blk_cell HX9.out.res 6).trans rfl
                  have hyf6 := blk_frozen HX9.out.res 6
                  have hy7 := (blk_cell HX9.out.res 7).trans rfl
                  have hyf7 := blk_frozen HX9.out.res 7
                  repeat go_step
                  have hfin := put8 HX9.out.res (.slice P0 n0 d0) (.slice P1 n1 d1) (.int .i64 l0) (.slice P2 n2 d2) (.int .i64 l1) (.slice P3 n3 d3) (.slice As ns ds) (.slice Aa na da)
                  have hbf := below8 HX9.out.bel (Nat.le_refl _) (.slice P0 n0 d0) (.slice P1 n1 d1) (.int .i64 l0) (.slice P2 n2 d2) (.int .i64 l1) (.slice P3 n3 d3) (.slice As ns ds) (.slice Aa na da)
                  generalize hWF : (((((((wc.setCell ⟨w.heap.size, 0, none⟩ _).setCell _ _).setCell _ _).setCell _ _).setCell _ _).setCell _ _).setCell _ _).setCell _ _ = wz at *
                  have hst : ∀ k, k ≠ w.heap.size → wz.heap[k]? = wc.heap[k]? := fun k hk => by rw [← hWF]; exact heap8 hk
                  have hlb : w.heap.size < b + 1 := Nat.lt_succ_of_lt (Nat.lt_trans HX9.out.lt1 HX9.out.lt2)
                  have HOZ := Aside0.mk ((HO9.out.step (w1 := wz) (fun k h1 h2 => hst k (Nat.ne_of_gt (Nat.lt_of_lt_of_le hlb h1)))).lower (Nat.le_of_lt hlb))
                  have HSZ := Aside0.mk (R_toOwn (Kd.R_step HS9.out (w1 := wz) (fun k h1 _ => hst k (Nat.ne_of_gt (Nat.lt_of_lt_of_le hlb h1)))) (Nat.le_of_lt hlb))
                  have HIZ := Aside0.mk (R_toOwn (Kd.R_step HR9.out (w1 := wz) (fun k h1 _ => hst k (Nat.ne_of_gt (Nat.lt_of_lt_of_le hlb h1)))) (Nat.le_of_lt hlb))
                  clear hst hlb
                  have hz0 := (blk_cell hfin 0).trans rfl
                  have hz1 := (blk_cell hfin 1).trans rfl
                  have hz2 := (blk_cell hfin 2).trans rfl
                  have hz3 := (blk_cell hfin 3).trans rfl
                  have hz4 := (blk_cell hfin 4).trans rfl
                  have hz5 := (blk_cell hfin 5).trans rfl
                  have hz6 := (blk_cell hfin 6).trans rfl
                  have hz7 := (blk_cell hfin 7).trans rfl
                  (try simp only [Exit.inBlock, Exit.then])
                  refine bodyPost_ret (by simp [results, Try.results27, go_sem, hz0, hz1, hz2, hz3, hz4, hz5, hz6, hz7]; try rfl) rfl ?_
                  refine ⟨_, by rw [HJJ.out.1], ?_, hbf⟩
                  rw [HJJ.out.2]
                  obtain ⟨v0, v1, v2, v3, hcs, r0, r1, r2, r3⟩ := HOZ.out
                  simp only [Array.mk.injEq, List.cons.injEq, Value.int.injEq, true_and, and_true] at hcs
                  obtain ⟨rfl, rfl, rfl, rfl, rfl, rfl⟩ := hcs
                  exact ⟨_, _, _, _, _, _, rfl, ⟨_, _, _, _, rfl, r0, r1, r2, r3⟩, HSZ.out, HIZ.out⟩
              · have e0 : (ep == 0) = false := by simp [he]
                have e1 : (ep != 0) = true := by simp [he]
                have HJJ : Aside0 (je = ep ∧ jj = zjob) := ⟨by
                  obtain ⟨h1, h2⟩ := HJ2.out
                  have h3 : je = ep := by rw [h1, if_neg (fun h => he h.1)]
                  exact ⟨h3, by rw [h2, h3, if_neg he]⟩⟩
                have HXE := HX9
                have hce := HXE.out.ce
                clear he HJ2 HO9 HS9 HR9 HX9
                go_upto_region 30 with fail
                clear hce
                refine start_ (n := 7) (S := fun w' => w'.cell? ⟨g, 2, none⟩ = some (.int .i64 (ep))) (ds := []) #[false, false, false, false, false, false, false] (by kernel_rfl) rfl rfl (HXE.out.drew.ce) (fun hHeld => ?_)
                refine pure_ (i := 0) (N := some 145) (v := ?_) (a' := ?_) #[true, false, false, false, false, false, false] rfl rfl (by kernel_rfl) (fun _ _ _ h => h) (Or.inl ⟨by rfl, ?_⟩) ?_ ?_
                rotate_left
                · intro w'
                  go_simp
                  with_reducible rfl
                rotate_left
                · simp only [Act.put, List.setIfInBounds_toArray, List.set_cons_zero, List.set_cons_succ, i64_w, i32_w]
                  rfl
                refine pure_ (i := 1) (N := some 146) (v := ?_) (a' := ?_) #[true, true, false, false, false, false, false] rfl rfl (by kernel_rfl) (fun _ _ _ h => h) (Or.inl ⟨by rfl, ?_⟩) ?_ ?_
                rotate_left
                · intro w'
                  go_simp
                  with_reducible rfl
                rotate_left
                · simp only [Act.put, List.setIfInBounds_toArray, List.set_cons_zero, List.set_cons_succ, i64_w, i32_w]
                  rfl
                refine pure_ (i := 2) (N := some 147) (v := ?_) (a' := ?_) #[true, true, true, false, false, false, false] rfl rfl (by kernel_rfl) (fun _ _ _ h => h) (Or.inl ⟨by rfl, ?_⟩) ?_ ?_
                rotate_left
                · intro w'
                  go_simp
                  with_reducible rfl
                rotate_left
                · simp only [Act.put, List.setIfInBounds_toArray, List.set_cons_zero, List.set_cons_succ, i64_w, i32_w]
                  rfl
                refine pure_ (i := 3) (N := some 148) (v := ?_) (a' := ?_) #[true, true, true, true, false, false, false] rfl rfl (by kernel_rfl) (fun _ _ _ h => h) (Or.inl ⟨by rfl, ?_⟩) ?_ ?_
                rotate_left
                · intro w'
                  go_simp
                  with_reducible rfl
                rotate_left
                · simp only [Act.put, List.setIfInBounds_toArray, List.set_cons_zero, List.set_cons_succ, i64_w, i32_w]
                  rfl
                refine take_ (i := 4) (N := some 149) (v := ?_) (a' := ?_) #[true, true, true, true, true, false, false] rfl rfl (by kernel_rfl) (fun _ _ _ h => h) (Or.inl ⟨by rfl, ?_⟩) hHeld ?_ ?_
                rotate_left
                · intro w' s0
                  go_simp
                  with_reducible rfl
                rotate_left
                · simp only [Act.put, List.setIfInBounds_toArray, List.set_cons_zero, List.set_cons_succ, i64_w, i32_w]
                  rfl
                refine one_ (i := 5) (N := none) #[true, true, true, true, true, true, false] rfl rfl (by kernel_rfl) (by decide) (fun K hK => ?_)
                have hgd := HXE.out.res
                have hy0 := (blk_cell hgd 0).trans rfl
                have hy1 := (blk_cell hgd 1).trans rfl
                have hy2 := (blk_cell hgd 2).trans rfl
                have hy3 := (blk_cell hgd 3).trans rfl
                have hy4 := (blk_cell hgd 4).trans rfl
                have hy5 := (blk_cell hgd 5).trans rfl
                have hy6 := (blk_cell hgd 6).trans rfl
                have hy7 := (blk_cell hgd 7).trans rfl
                have hyf0 := blk_frozen hgd 0
                have hyf1 := blk_frozen hgd 1
                have hyf2 := blk_frozen hgd 2
                have hyf3 := blk_frozen hgd 3
                have hyf4 := blk_frozen hgd 4
                have hyf5 := blk_frozen hgd 5
                have hyf6 := blk_frozen hgd 6
                have hyf7 := blk_frozen hgd 7
                refine skip_ (w1 := ?_) (by rfl) rfl ?_ ?_
                rotate_left
                · go_simp
                  rfl
                refine hK.out _ _ ((IsRb.at HXE.out.rb (heap8d (Nat.ne_of_gt HXE.out.lt1))).c2.1) (fun hHeld => ?_)
                clear hK K
                refine pure_ (i := 6) (N := some 3) (v := ?_) (a' := ?_) #[true, true, true, true, true, true, true] rfl rfl (by kernel_rfl) (fun _ _ _ h => h) (Or.inl ⟨by rfl, ?_⟩) ?_ ?_
                rotate_left
                · intro w'
                  go_simp
                  with_reducible rfl
                rotate_left
                · simp only [Act.put, List.setIfInBounds_toArray, List.set_cons_zero, List.set_cons_succ, i64_w, i32_w]
                  rfl
                refine done_ (by kernel_rfl) ?_
                repeat go_step
                have hfin := put8d HXE.out.res (.slice none 0 0) (.slice none 0 0) (.int .i64 0) (.slice none 0 0) (.int .i64 0) (.slice none 0 0) (.slice none 0 0) (.slice none 0 0)
                have hbf := below8d HXE.out.bel (Nat.le_refl _) (.slice none 0 0) (.slice none 0 0) (.int .i64 0) (.slice none 0 0) (.int .i64 0) (.slice none 0 0) (.slice none 0 0) (.slice none 0 0)
                generalize hWF : ((((((((wc.setCell ⟨w.heap.size, 0, none⟩ _).setCell _ _).setCell _ _).setCell _ _).setCell _ _).setCell _ _).setCell _ _).setCell _ _).drew = wz at *
                have hz0 := (blk_cell hfin 0).trans rfl
                have hz1 := (blk_cell hfin 1).trans rfl
                have hz2 := (blk_cell hfin 2).trans rfl
                have hz3 := (blk_cell hfin 3).trans rfl
                have hz4 := (blk_cell hfin 4).trans rfl
                have hz5 := (blk_cell hfin 5).trans rfl
                have hz6 := (blk_cell hfin 6).trans rfl
                have hz7 := (blk_cell hfin 7).trans rfl
                (try simp only [Exit.inBlock, Exit.then])
                refine bodyPost_ret (by simp [results, Try.results27, go_sem, hz0, hz1, hz2, hz3, hz4, hz5, hz6, hz7]; try rfl) rfl ?_
                exact ⟨_, by rw [HJJ.out.1], by rw [HJJ.out.2]; exact jobOwn_zero _ _, hbf⟩

end Go.Proofs.Ytbpmmabdjabfcaa.Script
