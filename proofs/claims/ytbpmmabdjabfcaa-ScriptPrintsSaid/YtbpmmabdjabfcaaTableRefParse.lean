import Derived.Test.YtbpmmabdjabfcaaTableParse
import Derived.Test.YtbpmmabdjabfcaaPTx21
import Derived.Test.YtbpmmabdjabfcaaPTx22
import Derived.Deep.QuietTactic
import Derived.BigQuiet
/- Package portholeref06: Parse answers what table.Parse does. Written by wip/tablerefparse.py. -/
namespace Go.Proofs.Ytbpmmabdjabfcaa.Table
open Go.RowKit Go.Proofs.YtbpmmabdjabfcaaW.PrintWords Go.Proofs.YtbpmmabdjabfcaaW.PrintLast Go.Proofs.YtbpmmabdjabfcaaW.PrintMore Go.Proofs.Ytbpmmabdjabfcaa.Box Go.Proofs.Ytbpmmabdjabfcaa.PT
set_option linter.unusedSimpArgs false
set_option linter.unusedVariables false
theorem count_calls (p q a b : Nat) (hp : p ≤ 64) (hq : q ≤ 64) (ha : a ≤ 64) (hb : b ≤ 64) (w : World) : Calls Try.prog 38 #[.int .i64 p, .int .i64 q, .int .i64 a, .int .i64 b] w fun e w' => e = .returned (.int .i64 (cntW p q a b : Nat)) ∧ Drawn0 w w' :=
  portholeref06_count.calls p q a b (cntW p q a b : Nat) w (by
    have e0 : wrap64 (2 * (p : Int)) = 2 * p := by unfold wrap64; omega
    have e1 : wrap64 (7 * (q : Int)) = 7 * q := by unfold wrap64; omega
    have e2 : wrap64 (3 * (a : Int)) = 3 * a := by unfold wrap64; omega
    have e3 : wrap64 (3 * (b : Int)) = 3 * b := by unfold wrap64; omega
    have e4 : wrap64 (6 + 2 * (p : Int)) = 6 + 2 * p := by unfold wrap64; omega
    have e5 : wrap64 (6 + 2 * (p : Int) + 7 * q) = 6 + 2 * p + 7 * q := by unfold wrap64; omega
    have e6 : wrap64 (6 + 2 * (p : Int) + 7 * q + 3 * a) = 6 + 2 * p + 7 * q + 3 * a := by unfold wrap64; omega
    have e7 : wrap64 (6 + 2 * (p : Int) + 7 * q + 3 * a + 3 * b) = (cntW p q a b : Nat) := by unfold wrap64 cntW; omega
    unfold portholeref06_count.f
    rw [e0, e1, e2, e3, e4, e5, e6, e7])
theorem rdd (ws : List Int) (at_ j : Nat) : rd ws ((at_ + j : Nat) : Int) = (ws.drop at_).getD j 0 := by
  rw [rd, Int.toNat_natCast, getD_drop]
theorem rdN (ws : List Int) (j : Nat) : rd ws (j : Int) = ws.getD j 0 := by rw [rd, Int.toNat_natCast]
theorem words_at {ws : List Int} (hw : Words ws) (j : Nat) : 0 ≤ ws.getD j 0 ∧ ws.getD j 0 ≤ 4294967295 := by
  rw [List.getD_eq_getElem?_getD]
  cases h : ws[j]? with
  | none => simp
  | some x => exact hw x (List.mem_of_getElem? h)
theorem windows_go (ws : List Int) (hw : Words ws) (at_ n : Nat) (hn : n ≤ 64) (ha : at_ ≤ 100000) (hl : at_ + 3 * n ≤ ws.length) : ∀ (k i : Nat), i ≤ n → n - i < k → portholeref06_windows.l0 k ws at_ n (windows (ws.drop at_) i) i = some (windows (ws.drop at_) n)
  | 0, _, _, h => absurd h (by omega)
  | k + 1, i, hi, hk => by
    unfold portholeref06_windows.l0
    by_cases hlt : i < n
    · have e0 : wrap64 ((at_ : Int) + wrap64 (3 * (i : Int))) = ((at_ + 3 * i : Nat) : Int) := by unfold wrap64; omega
      have e1 : wrap64 (((at_ + 3 * i : Nat) : Int) + 1) = ((at_ + (3 * i + 1) : Nat) : Int) := by unfold wrap64; omega
      have e2 : wrap64 (((at_ + 3 * i : Nat) : Int) + 2) = ((at_ + (3 * i + 2) : Nat) : Int) := by unfold wrap64; omega
      have e3 : wrap64 ((i : Int) + 1) = ((i + 1 : Nat) : Int) := by unfold wrap64; omega
      rw [e0, e1, e2, e3, if_pos (by omega), if_pos (by omega), if_pos (by omega), if_pos (by omega), if_pos (by omega), if_pos (by omega), if_pos (by omega), if_pos (by rw [windows_length]; omega), rdd, rdd, rdd]
      have w0 := words_at (hw.drop at_) (3 * i)
      have w1 := words_at (hw.drop at_) (3 * i + 1)
      have w2 := words_at (hw.drop at_) (3 * i + 2)
      rw [show wrap64 ((ws.drop at_).getD (3 * i) 0) = (ws.drop at_).getD (3 * i) 0 by unfold wrap64; omega, show wrap64 ((ws.drop at_).getD (3 * i + 1) 0) = (ws.drop at_).getD (3 * i + 1) 0 by unfold wrap64; omega, show wrap64 ((ws.drop at_).getD (3 * i + 2) 0) = (ws.drop at_).getD (3 * i + 2) 0 by unfold wrap64; omega]
      have h : windows (ws.drop at_) (i + 1) = windows (ws.drop at_) i ++ [⟨(ws.drop at_).getD (3 * i) 0, (ws.drop at_).getD (3 * i + 1) 0, (ws.drop at_).getD (3 * i + 2) 0⟩] := windows_succ (ws.drop at_) i
      rw [← h]
      exact windows_go ws hw at_ n hn ha hl k (i + 1) (by omega) (by omega)
    · obtain rfl : i = n := by omega
      rw [if_neg (by omega)]
theorem windows_refcalls (A : Option Addr) (c : Nat) (ws : List Int) (hw : Words ws) (hc : ws.length ≤ c) (at_ n : Nat) (hn : n ≤ 64) (ha : at_ ≤ 100000) (hl : at_ + 3 * n ≤ ws.length) (w : World) (hr : Kd.C (Kd.int .u32) w A ws.length ws) :
    Calls Try.prog 39 #[.slice A ws.length c, .int .i64 at_, .int .i64 n] w fun e w' => ∃ A' c', e = .returned (.slice A' n c') ∧ Kd.R k72 72 w' w.heap.size (fun j => w.heap.size ≤ j) (.slice A' n c') (windows (ws.drop at_) n) ∧ Below w.heap.size w w' := by
  refine (portholeref06_windows.calls (n + 1) A c ws at_ n (windows (ws.drop at_) n) w hr hc ?_).mono ?_
  · have := windows_go ws hw at_ n hn ha hl (n + 1) 0 (by omega) (by omega)
    exact this
  · rintro e w' ⟨v, rfl, h1, h2⟩
    obtain ⟨A', c', rfl⟩ := Kd.R_slice h1
    rw [windows_length] at h1 ⊢
    exact ⟨A', c', rfl, Kd.R_mono (Kd.R_bound h1) (fun j hj => hj.2.1), h2⟩
/-- The reference's Parse: the result's cells, the empty configuration, the configuration in the making. -/
structure RX (w W : World) (u0 u1 u2 u3 u4 u5 : Value) : Prop where
  res : W.heap[w.heap.size]? = some (.cells #[.slice none 0 0, .slice none 0 0, .int .i64 0, .slice none 0 0, .int .i64 0, .slice none 0 0] 31 (0, 0))
  x : W.heap[w.heap.size + 2]? = some (.cells #[u0, u1, u2, u3, u4, u5] 31 (0, 0))
  bel : Below w.heap.size w W
section
variable {w W W' : World} {u0 u1 u2 u3 u4 u5 : Value}
theorem RX.to (h : RX w W u0 u1 u2 u3 u4 u5) {b : Nat} (hb : Below b W W') (hl : w.heap.size + 3 ≤ b) : RX w W' u0 u1 u2 u3 u4 u5 :=
  ⟨(hb.block _ (by omega)).trans h.res, (hb.block _ (by omega)).trans h.x, h.bel.trans (hb.mono (by omega))⟩
theorem RX.size (h : RX w W u0 u1 u2 u3 u4 u5) : w.heap.size + 3 ≤ W.heap.size := blk_lt h.x
theorem RX.drew (h : RX w W u0 u1 u2 u3 u4 u5) : RX w W.drew u0 u1 u2 u3 u4 u5 := h.to (below_drew1 (Below.refl _ _)) h.size
theorem RX.drewN (h : RX w W u0 u1 u2 u3 u4 u5) (n : Nat) : RX w (W.drewN n) u0 u1 u2 u3 u4 u5 := h.to (pw_below_drewN (Below.refl _ _) n) h.size
theorem RX.alloc (h : RX w W u0 u1 u2 u3 u4 u5) (o : Obj) : RX w (W.alloc o) u0 u1 u2 u3 u4 u5 := h.to (below_alloc (Below.refl _ _) _) h.size
theorem RX.drawn (h : RX w W u0 u1 u2 u3 u4 u5) (hd : Drawn0 W W') : RX w W' u0 u1 u2 u3 u4 u5 := by
  obtain ⟨n, rfl⟩ := hd.out
  exact h.drewN n
theorem RX.s0 (h : RX w W u0 u1 u2 u3 u4 u5) (v : Value) : RX w (W.setCell ⟨w.heap.size + 2, 0, none⟩ v) v u1 u2 u3 u4 u5 := ⟨blk_far h.res (by show w.heap.size ≠ w.heap.size + 2; omega) v, (blk_set h.x 0 v).trans rfl, below_set h.bel (by omega)⟩
theorem RX.c0 (h : RX w W u0 u1 u2 u3 u4 u5) : W.cell? ⟨w.heap.size + 2, 0, none⟩ = some u0 := (blk_cell h.x 0).trans rfl
theorem RX.f0 (h : RX w W u0 u1 u2 u3 u4 u5) : W.frozen? ⟨w.heap.size + 2, 0, none⟩ = false := blk_frozen h.x 0
theorem RX.s1 (h : RX w W u0 u1 u2 u3 u4 u5) (v : Value) : RX w (W.setCell ⟨w.heap.size + 2, 1, none⟩ v) u0 v u2 u3 u4 u5 := ⟨blk_far h.res (by show w.heap.size ≠ w.heap.size + 2; omega) v, (blk_set h.x 1 v).trans rfl, below_set h.bel (by omega)⟩
theorem RX.c1 (h : RX w W u0 u1 u2 u3 u4 u5) : W.cell? ⟨w.heap.size + 2, 1, none⟩ = some u1 := (blk_cell h.x 1).trans rfl
theorem RX.f1 (h : RX w W u0 u1 u2 u3 u4 u5) : W.frozen? ⟨w.heap.size + 2, 1, none⟩ = false := blk_frozen h.x 1
theorem RX.s2 (h : RX w W u0 u1 u2 u3 u4 u5) (v : Value) : RX w (W.setCell ⟨w.heap.size + 2, 2, none⟩ v) u0 u1 v u3 u4 u5 := ⟨blk_far h.res (by show w.heap.size ≠ w.heap.size + 2; omega) v, (blk_set h.x 2 v).trans rfl, below_set h.bel (by omega)⟩
theorem RX.c2 (h : RX w W u0 u1 u2 u3 u4 u5) : W.cell? ⟨w.heap.size + 2, 2, none⟩ = some u2 := (blk_cell h.x 2).trans rfl
theorem RX.f2 (h : RX w W u0 u1 u2 u3 u4 u5) : W.frozen? ⟨w.heap.size + 2, 2, none⟩ = false := blk_frozen h.x 2
theorem RX.s3 (h : RX w W u0 u1 u2 u3 u4 u5) (v : Value) : RX w (W.setCell ⟨w.heap.size + 2, 3, none⟩ v) u0 u1 u2 v u4 u5 := ⟨blk_far h.res (by show w.heap.size ≠ w.heap.size + 2; omega) v, (blk_set h.x 3 v).trans rfl, below_set h.bel (by omega)⟩
theorem RX.c3 (h : RX w W u0 u1 u2 u3 u4 u5) : W.cell? ⟨w.heap.size + 2, 3, none⟩ = some u3 := (blk_cell h.x 3).trans rfl
theorem RX.f3 (h : RX w W u0 u1 u2 u3 u4 u5) : W.frozen? ⟨w.heap.size + 2, 3, none⟩ = false := blk_frozen h.x 3
theorem RX.s4 (h : RX w W u0 u1 u2 u3 u4 u5) (v : Value) : RX w (W.setCell ⟨w.heap.size + 2, 4, none⟩ v) u0 u1 u2 u3 v u5 := ⟨blk_far h.res (by show w.heap.size ≠ w.heap.size + 2; omega) v, (blk_set h.x 4 v).trans rfl, below_set h.bel (by omega)⟩
theorem RX.c4 (h : RX w W u0 u1 u2 u3 u4 u5) : W.cell? ⟨w.heap.size + 2, 4, none⟩ = some u4 := (blk_cell h.x 4).trans rfl
theorem RX.f4 (h : RX w W u0 u1 u2 u3 u4 u5) : W.frozen? ⟨w.heap.size + 2, 4, none⟩ = false := blk_frozen h.x 4
theorem RX.s5 (h : RX w W u0 u1 u2 u3 u4 u5) (v : Value) : RX w (W.setCell ⟨w.heap.size + 2, 5, none⟩ v) u0 u1 u2 u3 u4 v := ⟨blk_far h.res (by show w.heap.size ≠ w.heap.size + 2; omega) v, (blk_set h.x 5 v).trans rfl, below_set h.bel (by omega)⟩
theorem RX.c5 (h : RX w W u0 u1 u2 u3 u4 u5) : W.cell? ⟨w.heap.size + 2, 5, none⟩ = some u5 := (blk_cell h.x 5).trans rfl
theorem RX.f5 (h : RX w W u0 u1 u2 u3 u4 u5) : W.frozen? ⟨w.heap.size + 2, 5, none⟩ = false := blk_frozen h.x 5
theorem RX.word {A : Option Addr} {ws : List Int} (h : RX w W u0 u1 u2 u3 u4 u5) {ad : Addr} {v : Value} (hc : w.cell? ad = some v) : W.cell? ad = some v := pw_cell_below h.bel hc
end
theorem R_toOwn {α : Type} {d : Kd α} {e b b' : Nat} {W : World} {v : Value} {xs : List α} (h : Kd.R d e W b (fun j => b ≤ j) v xs) (hb : b' ≤ b) : Kd.R d e W b' (fun j => b' ≤ j) v xs := Kd.R_mono (Kd.R_lower h hb) (fun _ hj => Nat.le_trans hb hj)
theorem R_below3 {α : Type} {d : Kd α} {e b n : Nat} {W W' : World} {v : Value} {xs : List α} (h : Kd.R d e W b (fun j => b ≤ j) v xs) (hb : Below n W W') (hn : W.heap.size ≤ n) : Kd.R d e W' b (fun j => b ≤ j) v xs := Kd.R_step h (fun j _ hj => hb.block j (by omega))
theorem R_by {α β : Type} {d : Kd α} {d' : Kd β} {e e' b : Nat} {ok ok' : Nat → Prop} {W W1 : World} {v u : Value} {xs : List α} {ys : List β} (h : Kd.R d e W b ok v xs) (h' : Kd.R d' e' W b ok' u ys) (hne : ∀ q, q ∈ e :: d.E → q ≠ e') (hg : W.grownBy W1 u.ownBlock) : Kd.R d e W1 b ok v xs := by
  cases hu : u.ownBlock with
  | none =>
    rw [hu] at hg
    exact Kd.R_grown h hg (fun _ _ => by simp)
  | some g =>
    rw [hu] at hg
    obtain ⟨inner, ho⟩ := Kd.R_own h'
    obtain ⟨cells, hc⟩ := own_typed ho g hu
    exact Kd.R_mono (Kd.R_grown (Kd.R_types h hc hne) hg (fun k hk => by simp; exact hk.2)) (fun _ hk => hk.1)
theorem R_setx {α : Type} {d : Kd α} {e b g i : Nat} {W : World} {v u : Value} {xs : List α} (h : Kd.R d e W b (fun j => b ≤ j) v xs) (hg : g < b) : Kd.R d e (W.setCell ⟨g, i, none⟩ u) b (fun j => b ≤ j) v xs := Kd.R_far h (fun j hj => by show j ≠ g; omega) u
set_option maxRecDepth 20000 in
set_option maxHeartbeats 8000000 in
theorem refparse_calls (A : Option Addr) (c : Nat) (ws : List Int) (w : World) (hw : Words ws) (hc : ws.length ≤ c) (hm : ws.length ≤ 1000000) (hr : Kd.C (Kd.int .u32) w A ws.length ws) :
    Calls Try.prog 15 #[.slice A ws.length c] w fun e w' => ∃ cs, e = .returned (.tuple #[.agg cs, .int .i64 (parseE ws)]) ∧ IsOwn w' w.heap.size (parseR ws) cs ∧ Below w.heap.size w w' := by
  have HW := Aside0.mk hw
  have HRW := Aside0.mk hr
  have HCC := Aside0.mk hc
  obtain ⟨len, hlen⟩ : ∃ n, ws.length = n := ⟨_, rfl⟩
  have HLN := Aside0.mk hlen
  have hr0 := blk_alloc (blk_new w (.cells #[.slice none 0 0, .slice none 0 0, .int .i64 0, .slice none 0 0, .int .i64 0, .slice none 0 0] 31)) (.cells #[.slice none 0 0, .slice none 0 0, .int .i64 0, .slice none 0 0, .int .i64 0, .slice none 0 0] 31)
  have hn0 := blk_new (w.alloc (.cells #[.slice none 0 0, .slice none 0 0, .int .i64 0, .slice none 0 0, .int .i64 0, .slice none 0 0] 31)) (.cells #[.slice none 0 0, .slice none 0 0, .int .i64 0, .slice none 0 0, .int .i64 0, .slice none 0 0] 31)
  rw [World.size_alloc] at hn0
  have hb0 := below_alloc (below_alloc (Below.refl _ w) (.cells #[.slice none 0 0, .slice none 0 0, .int .i64 0, .slice none 0 0, .int .i64 0, .slice none 0 0] 31)) (.cells #[.slice none 0 0, .slice none 0 0, .int .i64 0, .slice none 0 0, .int .i64 0, .slice none 0 0] 31)
  have hs0 : ((w.alloc (.cells #[.slice none 0 0, .slice none 0 0, .int .i64 0, .slice none 0 0, .int .i64 0, .slice none 0 0] 31)).alloc (.cells #[.slice none 0 0, .slice none 0 0, .int .i64 0, .slice none 0 0, .int .i64 0, .slice none 0 0] 31)).heap.size = w.heap.size + 2 := by simp
  have HR := Aside0.mk hr0
  have HN := Aside0.mk hn0
  have HB := Aside0.mk hb0
  have HS := Aside0.mk hs0
  rw [hlen]
  rw [hlen] at hm
  clear hw hr hc hlen hr0 hn0 hb0 hs0
  by_cases hl6 : len < 6
  · have HE : Aside0 (parseE ws = 8) := ⟨by rw [parseE, if_pos (by rw [HLN.out]; exact hl6)]⟩
    have HRR : Aside0 (parseR ws = zcfg) := ⟨by rw [parseR, HE.out]; rfl⟩
    have hd : decide ((len : Int) < 6) = true := decide_eq_true (by omega)
    go_enter Try.func15, Try.ntmps15
    go_upto_region 2 with fail
    generalize hw1 : (w.alloc (.cells #[.slice none 0 0, .slice none 0 0, .int .i64 0, .slice none 0 0, .int .i64 0, .slice none 0 0] 31)).alloc (.cells #[.slice none 0 0, .slice none 0 0, .int .i64 0, .slice none 0 0, .int .i64 0, .slice none 0 0] 31) = w1 at *
    clear hw1
    have hq0 := (blk_cell HN.out 0).trans rfl
    have hq1 := (blk_cell HN.out 1).trans rfl
    have hq2 := (blk_cell HN.out 2).trans rfl
    have hq3 := (blk_cell HN.out 3).trans rfl
    have hq4 := (blk_cell HN.out 4).trans rfl
    have hq5 := (blk_cell HN.out 5).trans rfl
    have hz0 := (blk_cell HR.out 0).trans rfl
    have hf0 := blk_frozen HR.out 0
    have hz1 := (blk_cell HR.out 1).trans rfl
    have hf1 := blk_frozen HR.out 1
    have hz2 := (blk_cell HR.out 2).trans rfl
    have hf2 := blk_frozen HR.out 2
    have hz3 := (blk_cell HR.out 3).trans rfl
    have hf3 := blk_frozen HR.out 3
    have hz4 := (blk_cell HR.out 4).trans rfl
    have hf4 := blk_frozen HR.out 4
    have hz5 := (blk_cell HR.out 5).trans rfl
    have hf5 := blk_frozen HR.out 5
    clear hl6
    go_wp2
    have hfin := put6 HR.out (.slice none 0 0) (.slice none 0 0) (.int .i64 0) (.slice none 0 0) (.int .i64 0) (.slice none 0 0)
    have hbf := below6 HB.out (Nat.le_refl _) (.slice none 0 0) (.slice none 0 0) (.int .i64 0) (.slice none 0 0) (.int .i64 0) (.slice none 0 0)
    generalize hWF : (((((w1.setCell ⟨w.heap.size, 0, none⟩ _).setCell _ _).setCell _ _).setCell _ _).setCell _ _).setCell _ _ = wz at *
    have hz0 := (blk_cell hfin 0).trans rfl
    have hz1 := (blk_cell hfin 1).trans rfl
    have hz2 := (blk_cell hfin 2).trans rfl
    have hz3 := (blk_cell hfin 3).trans rfl
    have hz4 := (blk_cell hfin 4).trans rfl
    have hz5 := (blk_cell hfin 5).trans rfl
    (try simp only [Exit.inBlock, Exit.then])
    refine bodyPost_ret (by simp [results, Try.results15, go_sem, hz0, hz1, hz2, hz3, hz4, hz5]; try rfl) rfl ?_
    exact ⟨_, by rw [HE.out]; try rfl, by rw [HRR.out]; exact isOwn_zero _ _, hbf⟩
  · have hd : decide ((len : Int) < 6) = false := decide_eq_false (by omega)
    have hv := words_at HW.out
    have hnat : ∀ j, ws.getD j 0 = ((hdN ws j : Nat) : Int) := fun j => (Int.toNat_of_nonneg (hv j).1).symm
    obtain ⟨ad, e1, hw0⟩ := Kd.at_int HRW.out 0 (by omega) (by rw [HLN.out]; omega)
    cases e1
    obtain ⟨ad1, e1, hw1⟩ := Kd.at_int HRW.out 1 (by omega) (by rw [HLN.out]; omega)
    cases e1
    obtain ⟨ad2, e2, hw2⟩ := Kd.at_int HRW.out 2 (by omega) (by rw [HLN.out]; omega)
    cases e2
    obtain ⟨ad3, e3, hw3⟩ := Kd.at_int HRW.out 3 (by omega) (by rw [HLN.out]; omega)
    cases e3
    obtain ⟨ad4, e4, hw4⟩ := Kd.at_int HRW.out 4 (by omega) (by rw [HLN.out]; omega)
    cases e4
    obtain ⟨ad5, e5, hw5⟩ := Kd.at_int HRW.out 5 (by omega) (by rw [HLN.out]; omega)
    cases e5
    rw [show rd ws 0 = ws.getD 0 0 from rdN ws 0, hnat 0] at hw0
    rw [show rd ws 1 = ws.getD 1 0 from rdN ws 1, hnat 1] at hw1
    rw [show rd ws 2 = ws.getD 2 0 from rdN ws 2] at hw2
    rw [show rd ws 3 = ws.getD 3 0 from rdN ws 3, hnat 3] at hw3
    rw [show rd ws 4 = ws.getD 4 0 from rdN ws 4] at hw4
    rw [show rd ws 5 = ws.getD 5 0 from rdN ws 5, hnat 5] at hw5
    have b0 := (hv 0).2
    have b1 := (hv 1).2
    have b2 := hv 2
    have b3 := (hv 3).2
    have b4 := hv 4
    have b5 := (hv 5).2
    rw [hnat 0] at b0
    rw [hnat 1] at b1
    rw [hnat 3] at b3
    rw [hnat 5] at b5
    clear hv hnat
    obtain ⟨p, hp⟩ : ∃ p, hdN ws 0 = p := ⟨_, rfl⟩
    obtain ⟨q, hq⟩ : ∃ p, hdN ws 1 = p := ⟨_, rfl⟩
    obtain ⟨a, ha⟩ : ∃ p, hdN ws 3 = p := ⟨_, rfl⟩
    obtain ⟨b, hb⟩ : ∃ p, hdN ws 5 = p := ⟨_, rfl⟩
    obtain ⟨l0, hl0⟩ : ∃ l, ws.getD 2 0 = l := ⟨_, rfl⟩
    obtain ⟨l1, hl1⟩ : ∃ l, ws.getD 4 0 = l := ⟨_, rfl⟩
    rw [hp] at hw0 b0
    rw [hq] at hw1 b1
    rw [ha] at hw3 b3
    rw [hb] at hw5 b5
    rw [hl0] at hw2 b2
    rw [hl1] at hw4 b4
    have HPQ : Aside0 (hdN ws 0 = p ∧ hdN ws 1 = q ∧ hdN ws 3 = a ∧ hdN ws 5 = b ∧ ws.getD 2 0 = l0 ∧ ws.getD 4 0 = l1) := ⟨⟨hp, hq, ha, hb, hl0, hl1⟩⟩
    have hbg : bigW ws ↔ (64 < p ∨ 64 < q ∨ 64 < a ∨ 64 < b) := by rw [bigW, hp, hq, ha, hb]
    have HBG := Aside0.mk hbg
    have HW0 : Aside0 (w.cell? ad = some (.int .u32 p)) := ⟨by simpa [Addr.add] using hw0⟩
    have HW1 : Aside0 (w.cell? ⟨ad.block, ad.off + 1, none⟩ = some (.int .u32 q)) := ⟨hw1⟩
    have HW2 : Aside0 (w.cell? ⟨ad.block, ad.off + 2, none⟩ = some (.int .u32 l0)) := ⟨hw2⟩
    have HW3 : Aside0 (w.cell? ⟨ad.block, ad.off + 3, none⟩ = some (.int .u32 a)) := ⟨hw3⟩
    have HW4 : Aside0 (w.cell? ⟨ad.block, ad.off + 4, none⟩ = some (.int .u32 l1)) := ⟨hw4⟩
    have HW5 : Aside0 (w.cell? ⟨ad.block, ad.off + 5, none⟩ = some (.int .u32 b)) := ⟨hw5⟩
    have HL6 : Aside0 (¬ ws.length < 6) := ⟨by rw [HLN.out]; exact hl6⟩
    have hin : ∀ j : Nat, j < 6 → (0 ≤ (j : Int)) ∧ ((j : Int) < (len : Int)) := fun j hj => ⟨by omega, by omega⟩
    have i0 : ((0 : Int) < (len : Int)) = True := eq_true (by omega)
    have i1 : ((1 : Int) < (len : Int)) = True := eq_true (by omega)
    have i2 : ((2 : Int) < (len : Int)) = True := eq_true (by omega)
    have i3 : ((3 : Int) < (len : Int)) = True := eq_true (by omega)
    have i4 : ((4 : Int) < (len : Int)) = True := eq_true (by omega)
    have i5 : ((5 : Int) < (len : Int)) = True := eq_true (by omega)
    clear hp hq ha hb hl0 hl1 hbg hin hw0 hw1 hw2 hw3 hw4 hw5
    by_cases g0 : 64 < p
    · have t0 : decide ((64 : Int) < (p : Int)) = true := decide_eq_true (by omega)
      have HE : Aside0 (parseE ws = 7) := ⟨by rw [parseE, if_neg HL6.out, if_pos (HBG.out.2 (by omega))]⟩
      have HRR : Aside0 (parseR ws = zcfg) := ⟨by rw [parseR, HE.out]; rfl⟩
      go_enter Try.func15, Try.ntmps15
      go_upto_region 2 with fail
      generalize hw1 : (w.alloc (.cells #[.slice none 0 0, .slice none 0 0, .int .i64 0, .slice none 0 0, .int .i64 0, .slice none 0 0] 31)).alloc (.cells #[.slice none 0 0, .slice none 0 0, .int .i64 0, .slice none 0 0, .int .i64 0, .slice none 0 0] 31) = w1 at *
      clear hw1
      have hw0 := pw_cell_below HB.out HW0.out
      have hw1 := pw_cell_below HB.out HW1.out
      have hw2 := pw_cell_below HB.out HW2.out
      have hw3 := pw_cell_below HB.out HW3.out
      have hw4 := pw_cell_below HB.out HW4.out
      have hw5 := pw_cell_below HB.out HW5.out
      have hq0 := (blk_cell HN.out 0).trans rfl
      have hq1 := (blk_cell HN.out 1).trans rfl
      have hq2 := (blk_cell HN.out 2).trans rfl
      have hq3 := (blk_cell HN.out 3).trans rfl
      have hq4 := (blk_cell HN.out 4).trans rfl
      have hq5 := (blk_cell HN.out 5).trans rfl
      have hz0 := (blk_cell HR.out 0).trans rfl
      have hf0 := blk_frozen HR.out 0
      have hz1 := (blk_cell HR.out 1).trans rfl
      have hf1 := blk_frozen HR.out 1
      have hz2 := (blk_cell HR.out 2).trans rfl
      have hf2 := blk_frozen HR.out 2
      have hz3 := (blk_cell HR.out 3).trans rfl
      have hf3 := blk_frozen HR.out 3
      have hz4 := (blk_cell HR.out 4).trans rfl
      have hf4 := blk_frozen HR.out 4
      have hz5 := (blk_cell HR.out 5).trans rfl
      have hf5 := blk_frozen HR.out 5
      go_wp2
      have hfin := put6 HR.out (.slice none 0 0) (.slice none 0 0) (.int .i64 0) (.slice none 0 0) (.int .i64 0) (.slice none 0 0)
      have hbf := below6 HB.out (Nat.le_refl _) (.slice none 0 0) (.slice none 0 0) (.int .i64 0) (.slice none 0 0) (.int .i64 0) (.slice none 0 0)
      generalize hWF : (((((w1.setCell ⟨w.heap.size, 0, none⟩ _).setCell _ _).setCell _ _).setCell _ _).setCell _ _).setCell _ _ = wz at *
      have hz0 := (blk_cell hfin 0).trans rfl
      have hz1 := (blk_cell hfin 1).trans rfl
      have hz2 := (blk_cell hfin 2).trans rfl
      have hz3 := (blk_cell hfin 3).trans rfl
      have hz4 := (blk_cell hfin 4).trans rfl
      have hz5 := (blk_cell hfin 5).trans rfl
      (try simp only [Exit.inBlock, Exit.then])
      refine bodyPost_ret (by simp [results, Try.results15, go_sem, hz0, hz1, hz2, hz3, hz4, hz5]; try rfl) rfl ?_
      exact ⟨_, by rw [HE.out]; try rfl, by rw [HRR.out]; exact isOwn_zero _ _, hbf⟩
    · have t0 : decide ((64 : Int) < (p : Int)) = false := decide_eq_false (by omega)
      by_cases g1 : 64 < q
      · have t1 : decide ((64 : Int) < (q : Int)) = true := decide_eq_true (by omega)
        have HE : Aside0 (parseE ws = 7) := ⟨by rw [parseE, if_neg HL6.out, if_pos (HBG.out.2 (by omega))]⟩
        have HRR : Aside0 (parseR ws = zcfg) := ⟨by rw [parseR, HE.out]; rfl⟩
        go_enter Try.func15, Try.ntmps15
        go_upto_region 2 with fail
        generalize hw1 : (w.alloc (.cells #[.slice none 0 0, .slice none 0 0, .int .i64 0, .slice none 0 0, .int .i64 0, .slice none 0 0] 31)).alloc (.cells #[.slice none 0 0, .slice none 0 0, .int .i64 0, .slice none 0 0, .int .i64 0, .slice none 0 0] 31) = w1 at *
        clear hw1
        have hw0 := pw_cell_below HB.out HW0.out
        have hw1 := pw_cell_below HB.out HW1.out
        have hw2 := pw_cell_below HB.out HW2.out
        have hw3 := pw_cell_below HB.out HW3.out
        have hw4 := pw_cell_below HB.out HW4.out
        have hw5 := pw_cell_below HB.out HW5.out
        have hq0 := (blk_cell HN.out 0).trans rfl
        have hq1 := (blk_cell HN.out 1).trans rfl
        have hq2 := (blk_cell HN.out 2).trans rfl
        have hq3 := (blk_cell HN.out 3).trans rfl
        have hq4 := (blk_cell HN.out 4).trans rfl
        have hq5 := (blk_cell HN.out 5).trans rfl
        have hz0 := (blk_cell HR.out 0).trans rfl
        have hf0 := blk_frozen HR.out 0
        have hz1 := (blk_cell HR.out 1).trans rfl
        have hf1 := blk_frozen HR.out 1
        have hz2 := (blk_cell HR.out 2).trans rfl
        have hf2 := blk_frozen HR.out 2
        have hz3 := (blk_cell HR.out 3).trans rfl
        have hf3 := blk_frozen HR.out 3
        have hz4 := (blk_cell HR.out 4).trans rfl
        have hf4 := blk_frozen HR.out 4
        have hz5 := (blk_cell HR.out 5).trans rfl
        have hf5 := blk_frozen HR.out 5
        go_wp2
        have hfin := put6 HR.out (.slice none 0 0) (.slice none 0 0) (.int .i64 0) (.slice none 0 0) (.int .i64 0) (.slice none 0 0)
        have hbf := below6 HB.out (Nat.le_refl _) (.slice none 0 0) (.slice none 0 0) (.int .i64 0) (.slice none 0 0) (.int .i64 0) (.slice none 0 0)
        generalize hWF : (((((w1.setCell ⟨w.heap.size, 0, none⟩ _).setCell _ _).setCell _ _).setCell _ _).setCell _ _).setCell _ _ = wz at *
        have hz0 := (blk_cell hfin 0).trans rfl
        have hz1 := (blk_cell hfin 1).trans rfl
        have hz2 := (blk_cell hfin 2).trans rfl
        have hz3 := (blk_cell hfin 3).trans rfl
        have hz4 := (blk_cell hfin 4).trans rfl
        have hz5 := (blk_cell hfin 5).trans rfl
        (try simp only [Exit.inBlock, Exit.then])
        refine bodyPost_ret (by simp [results, Try.results15, go_sem, hz0, hz1, hz2, hz3, hz4, hz5]; try rfl) rfl ?_
        exact ⟨_, by rw [HE.out]; try rfl, by rw [HRR.out]; exact isOwn_zero _ _, hbf⟩
      · have t1 : decide ((64 : Int) < (q : Int)) = false := decide_eq_false (by omega)
        by_cases g2 : 64 < a
        · have t2 : decide ((64 : Int) < (a : Int)) = true := decide_eq_true (by omega)
          have HE : Aside0 (parseE ws = 7) := ⟨by rw [parseE, if_neg HL6.out, if_pos (HBG.out.2 (by omega))]⟩
          have HRR : Aside0 (parseR ws = zcfg) := ⟨by rw [parseR, HE.out]; rfl⟩
          go_enter Try.func15, Try.ntmps15
          go_upto_region 2 with fail
          generalize hw1 : (w.alloc (.cells #[.slice none 0 0, .slice none 0 0, .int .i64 0, .slice none 0 0, .int .i64 0, .slice none 0 0] 31)).alloc (.cells #[.slice none 0 0, .slice none 0 0, .int .i64 0, .slice none 0 0, .int .i64 0, .slice none 0 0] 31) = w1 at *
          clear hw1
          have hw0 := pw_cell_below HB.out HW0.out
          have hw1 := pw_cell_below HB.out HW1.out
          have hw2 := pw_cell_below HB.out HW2.out
          have hw3 := pw_cell_below HB.out HW3.out
          have hw4 := pw_cell_below HB.out HW4.out
          have hw5 := pw_cell_below HB.out HW5.out
          have hq0 := (blk_cell HN.out 0).trans rfl
          have hq1 := (blk_cell HN.out 1).trans rfl
          have hq2 := (blk_cell HN.out 2).trans rfl
          have hq3 := (blk_cell HN.out 3).trans rfl
          have hq4 := (blk_cell HN.out 4).trans rfl
          have hq5 := (blk_cell HN.out 5).trans rfl
          have hz0 := (blk_cell HR.out 0).trans rfl
          have hf0 := blk_frozen HR.out 0
          have hz1 := (blk_cell HR.out 1).trans rfl
          have hf1 := blk_frozen HR.out 1
          have hz2 := (blk_cell HR.out 2).trans rfl
          have hf2 := blk_frozen HR.out 2
          have hz3 := (blk_cell HR.out 3).trans rfl
          have hf3 := blk_frozen HR.out 3
          have hz4 := (blk_cell HR.out 4).trans rfl
          have hf4 := blk_frozen HR.out 4
          have hz5 := (blk_cell HR.out 5).trans rfl
          have hf5 := blk_frozen HR.out 5
          go_wp2
          have hfin := put6 HR.out (.slice none 0 0) (.slice none 0 0) (.int .i64 0) (.slice none 0 0) (.int .i64 0) (.slice none 0 0)
          have hbf := below6 HB.out (Nat.le_refl _) (.slice none 0 0) (.slice none 0 0) (.int .i64 0) (.slice none 0 0) (.int .i64 0) (.slice none 0 0)
          generalize hWF : (((((w1.setCell ⟨w.heap.size, 0, none⟩ _).setCell _ _).setCell _ _).setCell _ _).setCell _ _).setCell _ _ = wz at *
          have hz0 := (blk_cell hfin 0).trans rfl
          have hz1 := (blk_cell hfin 1).trans rfl
          have hz2 := (blk_cell hfin 2).trans rfl
          have hz3 := (blk_cell hfin 3).trans rfl
          have hz4 := (blk_cell hfin 4).trans rfl
          have hz5 := (blk_cell hfin 5).trans rfl
          (try simp only [Exit.inBlock, Exit.then])
          refine bodyPost_ret (by simp [results, Try.results15, go_sem, hz0, hz1, hz2, hz3, hz4, hz5]; try rfl) rfl ?_
          exact ⟨_, by rw [HE.out]; try rfl, by rw [HRR.out]; exact isOwn_zero _ _, hbf⟩
        · have t2 : decide ((64 : Int) < (a : Int)) = false := decide_eq_false (by omega)
          by_cases g3 : 64 < b
          · have t3 : decide ((64 : Int) < (b : Int)) = true := decide_eq_true (by omega)
            have HE : Aside0 (parseE ws = 7) := ⟨by rw [parseE, if_neg HL6.out, if_pos (HBG.out.2 (by omega))]⟩
            have HRR : Aside0 (parseR ws = zcfg) := ⟨by rw [parseR, HE.out]; rfl⟩
            go_enter Try.func15, Try.ntmps15
            go_upto_region 2 with fail
            generalize hw1 : (w.alloc (.cells #[.slice none 0 0, .slice none 0 0, .int .i64 0, .slice none 0 0, .int .i64 0, .slice none 0 0] 31)).alloc (.cells #[.slice none 0 0, .slice none 0 0, .int .i64 0, .slice none 0 0, .int .i64 0, .slice none 0 0] 31) = w1 at *
            clear hw1
            have hw0 := pw_cell_below HB.out HW0.out
            have hw1 := pw_cell_below HB.out HW1.out
            have hw2 := pw_cell_below HB.out HW2.out
            have hw3 := pw_cell_below HB.out HW3.out
            have hw4 := pw_cell_below HB.out HW4.out
            have hw5 := pw_cell_below HB.out HW5.out
            have hq0 := (blk_cell HN.out 0).trans rfl
            have hq1 := (blk_cell HN.out 1).trans rfl
            have hq2 := (blk_cell HN.out 2).trans rfl
            have hq3 := (blk_cell HN.out 3).trans rfl
            have hq4 := (blk_cell HN.out 4).trans rfl
            have hq5 := (blk_cell HN.out 5).trans rfl
            have hz0 := (blk_cell HR.out 0).trans rfl
            have hf0 := blk_frozen HR.out 0
            have hz1 := (blk_cell HR.out 1).trans rfl
            have hf1 := blk_frozen HR.out 1
            have hz2 := (blk_cell HR.out 2).trans rfl
            have hf2 := blk_frozen HR.out 2
            have hz3 := (blk_cell HR.out 3).trans rfl
            have hf3 := blk_frozen HR.out 3
            have hz4 := (blk_cell HR.out 4).trans rfl
            have hf4 := blk_frozen HR.out 4
            have hz5 := (blk_cell HR.out 5).trans rfl
            have hf5 := blk_frozen HR.out 5
            go_wp2
            have hfin := put6 HR.out (.slice none 0 0) (.slice none 0 0) (.int .i64 0) (.slice none 0 0) (.int .i64 0) (.slice none 0 0)
            have hbf := below6 HB.out (Nat.le_refl _) (.slice none 0 0) (.slice none 0 0) (.int .i64 0) (.slice none 0 0) (.int .i64 0) (.slice none 0 0)
            generalize hWF : (((((w1.setCell ⟨w.heap.size, 0, none⟩ _).setCell _ _).setCell _ _).setCell _ _).setCell _ _).setCell _ _ = wz at *
            have hz0 := (blk_cell hfin 0).trans rfl
            have hz1 := (blk_cell hfin 1).trans rfl
            have hz2 := (blk_cell hfin 2).trans rfl
            have hz3 := (blk_cell hfin 3).trans rfl
            have hz4 := (blk_cell hfin 4).trans rfl
            have hz5 := (blk_cell hfin 5).trans rfl
            (try simp only [Exit.inBlock, Exit.then])
            refine bodyPost_ret (by simp [results, Try.results15, go_sem, hz0, hz1, hz2, hz3, hz4, hz5]; try rfl) rfl ?_
            exact ⟨_, by rw [HE.out]; try rfl, by rw [HRR.out]; exact isOwn_zero _ _, hbf⟩
          · have t3 : decide ((64 : Int) < (b : Int)) = false := decide_eq_false (by omega)
            have HNB : Aside0 (¬ bigW ws) := ⟨fun h => by have := HBG.out.1 h; omega⟩
            have hE0 : parseE ws = if len < cntW p q a b then 8 else if cntW p q a b < len then 9 else 0 := by
              rw [parseE, if_neg HL6.out, if_neg HNB.out, HPQ.out.1, HPQ.out.2.1, HPQ.out.2.2.1, HPQ.out.2.2.2.1, HLN.out]
            have HE0 := Aside0.mk hE0
            have HCT := Aside0.mk (count_calls p q a b (by omega) (by omega) (by omega) (by omega))
            obtain ⟨N, hN⟩ : ∃ N, cntW p q a b = N := ⟨_, rfl⟩
            rw [hN] at HCT HE0
            have HNN := Aside0.mk hN
            have HPB := Aside0.mk (show p ≤ 64 ∧ q ≤ 64 ∧ a ≤ 64 ∧ b ≤ 64 by omega)
            clear hE0 hN
            go_enter Try.func15, Try.ntmps15
            go_upto_region 2 with fail
            generalize hw1 : (w.alloc (.cells #[.slice none 0 0, .slice none 0 0, .int .i64 0, .slice none 0 0, .int .i64 0, .slice none 0 0] 31)).alloc (.cells #[.slice none 0 0, .slice none 0 0, .int .i64 0, .slice none 0 0, .int .i64 0, .slice none 0 0] 31) = w1 at *
            clear hw1
            have hw0 := pw_cell_below HB.out HW0.out
            have hw1 := pw_cell_below HB.out HW1.out
            have hw2 := pw_cell_below HB.out HW2.out
            have hw3 := pw_cell_below HB.out HW3.out
            have hw4 := pw_cell_below HB.out HW4.out
            have hw5 := pw_cell_below HB.out HW5.out
            go_wp2_with fail
            go_quiet (fail)
            have hbd := pw_below_drewN (Below.refl w1.heap.size w1) nq
            have HR2 := Aside0.mk (blk_below HR.out hbd)
            have HN2 := Aside0.mk (blk_below HN.out hbd)
            have HB2 := Aside0.mk (HB.out.trans (hbd.mono HB.out.size))
            have HS2 : Aside0 ((w1.drewN nq).heap.size = w.heap.size + 2) := ⟨HS.out⟩
            clear hbd HR HN HB HS hw0 hw1 hw2 hw3 hw4 hw5 t0 t1 t2 t3
            generalize w1.drewN nq = w2 at *
            clear w1
            go_wp2_with fail
            refine (HCT.out _).mono ?_
            rintro e w3 ⟨rfl, hd3⟩
            obtain ⟨n3, hn3⟩ := hd3.out
            have hbd := pw_below_drewN (Below.refl w2.heap.size w2) n3
            rw [← hn3] at hbd
            have HR := Aside0.mk (blk_below HR2.out hbd)
            have HN := Aside0.mk (blk_below HN2.out hbd)
            have HB := Aside0.mk (HB2.out.trans (hbd.mono HB2.out.size))
            have HS : Aside0 (w3.heap.size = w.heap.size + 2) := ⟨by rw [hn3]; exact HS2.out⟩
            clear hbd HR2 HN2 HB2 HS2 hn3 hd3
            by_cases hlN : len < N
            · have hlt : decide (len < N) = true := decide_eq_true hlN
              have HE : Aside0 (parseE ws = 8) := ⟨by rw [HE0.out, if_pos hlN]⟩
              have HRR : Aside0 (parseR ws = zcfg) := ⟨by rw [parseR, HE.out]; rfl⟩
              have hq0 := (blk_cell HN.out 0).trans rfl
              have hq1 := (blk_cell HN.out 1).trans rfl
              have hq2 := (blk_cell HN.out 2).trans rfl
              have hq3 := (blk_cell HN.out 3).trans rfl
              have hq4 := (blk_cell HN.out 4).trans rfl
              have hq5 := (blk_cell HN.out 5).trans rfl
              have hz0 := (blk_cell HR.out 0).trans rfl
              have hf0 := blk_frozen HR.out 0
              have hz1 := (blk_cell HR.out 1).trans rfl
              have hf1 := blk_frozen HR.out 1
              have hz2 := (blk_cell HR.out 2).trans rfl
              have hf2 := blk_frozen HR.out 2
              have hz3 := (blk_cell HR.out 3).trans rfl
              have hf3 := blk_frozen HR.out 3
              have hz4 := (blk_cell HR.out 4).trans rfl
              have hf4 := blk_frozen HR.out 4
              have hz5 := (blk_cell HR.out 5).trans rfl
              have hf5 := blk_frozen HR.out 5
              clear hlN
              go_wp2
              have hfin := put6 HR.out (.slice none 0 0) (.slice none 0 0) (.int .i64 0) (.slice none 0 0) (.int .i64 0) (.slice none 0 0)
              have hbf := below6 HB.out (Nat.le_refl _) (.slice none 0 0) (.slice none 0 0) (.int .i64 0) (.slice none 0 0) (.int .i64 0) (.slice none 0 0)
              generalize hWF : (((((w3.setCell ⟨w.heap.size, 0, none⟩ _).setCell _ _).setCell _ _).setCell _ _).setCell _ _).setCell _ _ = wz at *
              have hz0 := (blk_cell hfin 0).trans rfl
              have hz1 := (blk_cell hfin 1).trans rfl
              have hz2 := (blk_cell hfin 2).trans rfl
              have hz3 := (blk_cell hfin 3).trans rfl
              have hz4 := (blk_cell hfin 4).trans rfl
              have hz5 := (blk_cell hfin 5).trans rfl
              (try simp only [Exit.inBlock, Exit.then])
              refine bodyPost_ret (by simp [results, Try.results15, go_sem, hz0, hz1, hz2, hz3, hz4, hz5]; try rfl) rfl ?_
              exact ⟨_, by rw [HE.out]; try rfl, by rw [HRR.out]; exact isOwn_zero _ _, hbf⟩
            · have hlt : decide (len < N) = false := decide_eq_false hlN
              go_wp2_with fail
              refine (HCT.out _).mono ?_
              rintro e w4 ⟨rfl, hd3⟩
              obtain ⟨n3, hn3⟩ := hd3.out
              have hbd := pw_below_drewN (Below.refl w3.heap.size w3) n3
              rw [← hn3] at hbd
              have HR4 := Aside0.mk (blk_below HR.out hbd)
              have HN4 := Aside0.mk (blk_below HN.out hbd)
              have HB4 := Aside0.mk (HB.out.trans (hbd.mono HB.out.size))
              have HS4 : Aside0 (w4.heap.size = w.heap.size + 2) := ⟨by rw [hn3]; exact HS.out⟩
              clear hbd HR HN HB HS hn3 hd3
              have HR := HR4
              have HN := HN4
              have HB := HB4
              have HS := HS4
              clear HR4 HN4 HB4 HS4
              by_cases hlM : N < len
              · have hgt : decide (N < len) = true := decide_eq_true hlM
                have HE : Aside0 (parseE ws = 9) := ⟨by rw [HE0.out, if_neg hlN, if_pos hlM]⟩
                have HRR : Aside0 (parseR ws = zcfg) := ⟨by rw [parseR, HE.out]; rfl⟩
                have hq0 := (blk_cell HN.out 0).trans rfl
                have hq1 := (blk_cell HN.out 1).trans rfl
                have hq2 := (blk_cell HN.out 2).trans rfl
                have hq3 := (blk_cell HN.out 3).trans rfl
                have hq4 := (blk_cell HN.out 4).trans rfl
                have hq5 := (blk_cell HN.out 5).trans rfl
                have hz0 := (blk_cell HR.out 0).trans rfl
                have hf0 := blk_frozen HR.out 0
                have hz1 := (blk_cell HR.out 1).trans rfl
                have hf1 := blk_frozen HR.out 1
                have hz2 := (blk_cell HR.out 2).trans rfl
                have hf2 := blk_frozen HR.out 2
                have hz3 := (blk_cell HR.out 3).trans rfl
                have hf3 := blk_frozen HR.out 3
                have hz4 := (blk_cell HR.out 4).trans rfl
                have hf4 := blk_frozen HR.out 4
                have hz5 := (blk_cell HR.out 5).trans rfl
                have hf5 := blk_frozen HR.out 5
                clear hlN hlM
                go_wp2
                have hfin := put6 HR.out (.slice none 0 0) (.slice none 0 0) (.int .i64 0) (.slice none 0 0) (.int .i64 0) (.slice none 0 0)
                have hbf := below6 HB.out (Nat.le_refl _) (.slice none 0 0) (.slice none 0 0) (.int .i64 0) (.slice none 0 0) (.int .i64 0) (.slice none 0 0)
                generalize hWF : (((((w4.setCell ⟨w.heap.size, 0, none⟩ _).setCell _ _).setCell _ _).setCell _ _).setCell _ _).setCell _ _ = wz at *
                have hz0 := (blk_cell hfin 0).trans rfl
                have hz1 := (blk_cell hfin 1).trans rfl
                have hz2 := (blk_cell hfin 2).trans rfl
                have hz3 := (blk_cell hfin 3).trans rfl
                have hz4 := (blk_cell hfin 4).trans rfl
                have hz5 := (blk_cell hfin 5).trans rfl
                (try simp only [Exit.inBlock, Exit.then])
                refine bodyPost_ret (by simp [results, Try.results15, go_sem, hz0, hz1, hz2, hz3, hz4, hz5]; try rfl) rfl ?_
                exact ⟨_, by rw [HE.out]; try rfl, by rw [HRR.out]; exact isOwn_zero _ _, hbf⟩
              · have hgt : decide (N < len) = false := decide_eq_false hlM
                obtain rfl : N = len := by omega
                have HE : Aside0 (parseE ws = 0) := ⟨by rw [HE0.out, if_neg (by omega), if_neg (by omega)]⟩
                have HRR : Aside0 (parseR ws = parseC ws) := ⟨by rw [parseR, if_pos HE.out]⟩
                have hx0 := blk_new w4 (.cells #[.slice none 0 0, .slice none 0 0, .int .i64 0, .slice none 0 0, .int .i64 0, .slice none 0 0] 31)
                rw [HS.out] at hx0
                have HX := Aside0.mk (RX.mk (w := w) (W := w4.alloc (.cells #[.slice none 0 0, .slice none 0 0, .int .i64 0, .slice none 0 0, .int .i64 0, .slice none 0 0] 31)) (blk_alloc HR.out _) hx0 (HB.out.trans ((below_alloc (Below.refl _ _) _).mono HB.out.size)))
                have hsz := HS.out
                clear hx0 HR HN HB HS HE0 hlt hgt hlN hlM
                go_wp2_with fail
                clear hsz
                generalize w4.alloc (.cells #[.slice none 0 0, .slice none 0 0, .int .i64 0, .slice none 0 0, .int .i64 0, .slice none 0 0] 31) = w5 at *
                clear w4
                go_loopw [10] (fun v wr => ∃ (i : Nat) (v0 : Value), i ≤ p ∧ v = .int .i64 i ∧ Aside0 (RX w wr v0 (.slice none 0 0) (.int .i64 0) (.slice none 0 0) (.int .i64 0) (.slice none 0 0)) ∧ Aside0 (Kd.R k64 64 wr (w.heap.size + 3) (fun j => w.heap.size + 3 ≤ j) v0 (parts (ws.drop 6) i))) (fun v _ => p - (intOf v).toNat)
                case atStart => exact ⟨0, .slice none 0 0, by omega, rfl, HX, ⟨by simpa [parts] using Kd.R_nil k64 64 w5 (w.heap.size + 3) (fun j => w.heap.size + 3 ≤ j)⟩⟩
                case round =>
                  obtain ⟨i, v0, hi, rfl, HXr, HRr⟩ := hrel
                  obtain ⟨A0v, c0v, rfl⟩ := Kd.R_slice HRr.out
                  obtain ⟨l0v, hlv⟩ : ∃ l, (parts (ws.drop 6) i).length = l := ⟨_, rfl⟩
                  rw [hlv] at HXr HRr
                  clear hlv
                  by_cases hlt : i < p
                  · have hd : decide (i < p) = true := decide_eq_true hlt
                    have hoff : ws.drop 6 = (ws.drop 6) := rfl
                    obtain ⟨m2, hm2⟩ : ∃ m : Int, 2 * (i : Int) = m := ⟨_, rfl⟩
                    have e2 : IntKind.i64.wrap (2 * (i : Int)) = m2 := by rw [i64_w]; unfold wrap64; omega
                    obtain ⟨j0, hj0⟩ : ∃ j : Int, 6 + m2 = j := ⟨_, rfl⟩
                    have e60 : IntKind.i64.wrap (6 + m2) = j0 := by rw [i64_w]; unfold wrap64; omega
                    obtain ⟨j1, hj1⟩ : ∃ j : Int, 7 + m2 = j := ⟨_, rfl⟩
                    have e71 : IntKind.i64.wrap (7 + m2) = j1 := by rw [i64_w]; unfold wrap64; omega
                    have hNN := HNN.out
                    unfold cntW at hNN
                    have h0j0 : 0 ≤ j0 := by omega
                    have h1j0 : j0 < (N : Int) := by omega
                    have h0j1 : 0 ≤ j1 := by omega
                    have h1j1 : j1 < (N : Int) := by omega
                    have HJ0 : Aside0 (((6 + (2 * i + 0) : Nat) : Int) = j0) := ⟨by omega⟩
                    have HJ1 : Aside0 (((6 + (2 * i + 1) : Nat) : Int) = j1) := ⟨by omega⟩
                    clear hm2 hj0 hj1 hNN
                    obtain ⟨ax0, ex0, hy0⟩ := Kd.at_int HRW.out j0 h0j0 (by rw [HLN.out]; exact h1j0)
                    cases ex0
                    have hby0 := words_at (HW.out.drop 6) (2 * i + 0)
                    have hry0 : rd ws j0 = (ws.drop 6).getD (2 * i + 0) 0 := by rw [← HJ0.out, ← hoff]; exact rdd ws 6 (2 * i + 0)
                    rw [hoff, ← hry0] at hby0
                    obtain ⟨y0, hgy0⟩ : ∃ y, rd ws j0 = y := ⟨_, rfl⟩
                    rw [hgy0] at hy0 hby0 hry0
                    have HY0 := Aside0.mk hry0
                    have HYw0 := Aside0.mk hy0
                    have hYc0 := pw_cell_below HXr.out.bel hy0
                    have p0j0 := eq_true h0j0
                    have p1j0 := eq_true h1j0
                    have hcv0 : IntKind.i64.wrap y0 = y0 := by rw [i64_w]; unfold wrap64; omega
                    clear hry0 hgy0 hy0 hby0 h0j0 h1j0
                    obtain ⟨ax1, ex1, hy1⟩ := Kd.at_int HRW.out j1 h0j1 (by rw [HLN.out]; exact h1j1)
                    cases ex1
                    have hby1 := words_at (HW.out.drop 6) (2 * i + 1)
                    have hry1 : rd ws j1 = (ws.drop 6).getD (2 * i + 1) 0 := by rw [← HJ1.out, ← hoff]; exact rdd ws 6 (2 * i + 1)
                    rw [hoff, ← hry1] at hby1
                    obtain ⟨y1, hgy1⟩ : ∃ y, rd ws j1 = y := ⟨_, rfl⟩
                    rw [hgy1] at hy1 hby1 hry1
                    have HY1 := Aside0.mk hry1
                    have HYw1 := Aside0.mk hy1
                    have hYc1 := pw_cell_below HXr.out.bel hy1
                    have p0j1 := eq_true h0j1
                    have p1j1 := eq_true h1j1
                    have hcv1 : IntKind.i64.wrap y1 = y1 := by rw [i64_w]; unfold wrap64; omega
                    clear hry1 hgy1 hy1 hby1 h0j1 h1j1
                    clear hoff
                    have hcx := HXr.out.c0
                    go_wp2_with fail
                    have HXd := Aside0.mk HXr.out.drew
                    have HRd := Aside0.mk (Kd.R_drew HRr.out)
                    refine start_ (n := 21) (S := fun w' => w'.cell? ⟨w.heap.size + 2, 0, none⟩ = some (.slice A0v l0v c0v) ∧ w'.cell? (ad.add j0.toNat) = some (.int .u32 y0) ∧ w'.cell? (ad.add j1.toNat) = some (.int .u32 y1)) (ds := [20]) #[false, false, false, false, false, false, false, false, false, false, false, false, false, false, false, false, false, false, false, false, false] (by kernel_rfl) rfl rfl ⟨HXr.out.drew.c0, pw_cell_below HXr.out.drew.bel HYw0.out, pw_cell_below HXr.out.drew.bel HYw1.out⟩ (fun hHeld => ?_)
                    generalize wr.drew = wd at HXd HRd hHeld ⊢
                    refine pure_ (i := 0) (N := some 80) (v := ?_) (a' := ?_) #[true, false, false, false, false, false, false, false, false, false, false, false, false, false, false, false, false, false, false, false, false] rfl rfl (by kernel_rfl) (fun _ _ _ h => h) (Or.inl ⟨by rfl, ?_⟩) ?_ ?_
                    rotate_left
                    · intro w'
                      go_simp
                      with_reducible rfl
                    rotate_left
                    · simp only [Act.put, List.setIfInBounds_toArray, List.set_cons_zero, List.set_cons_succ, i64_w, i32_w]
                      rfl
                    refine pure_ (i := 2) (N := some 82) (v := ?_) (a' := ?_) #[true, false, true, false, false, false, false, false, false, false, false, false, false, false, false, false, false, false, false, false, false] rfl rfl (by kernel_rfl) (fun _ _ _ h => h) (Or.inl ⟨by rfl, ?_⟩) ?_ ?_
                    rotate_left
                    · intro w'
                      go_simp
                      with_reducible rfl
                    rotate_left
                    · simp only [Act.put, List.setIfInBounds_toArray, List.set_cons_zero, List.set_cons_succ, i64_w, i32_w]
                      rfl
                    refine pure_ (i := 3) (N := some 83) (v := ?_) (a' := ?_) #[true, false, true, true, false, false, false, false, false, false, false, false, false, false, false, false, false, false, false, false, false] rfl rfl (by kernel_rfl) (fun _ _ _ h => h) (Or.inl ⟨by rfl, ?_⟩) ?_ ?_
                    rotate_left
                    · intro w'
                      go_simp
                      with_reducible rfl
                    rotate_left
                    · simp only [Act.put, List.setIfInBounds_toArray, List.set_cons_zero, List.set_cons_succ, i64_w, i32_w]
                      rfl
                    refine pure_ (i := 4) (N := some 84) (v := ?_) (a' := ?_) #[true, false, true, true, true, false, false, false, false, false, false, false, false, false, false, false, false, false, false, false, false] rfl rfl (by kernel_rfl) (fun _ _ _ h => h) (Or.inl ⟨by rfl, ?_⟩) ?_ ?_
                    rotate_left
                    · intro w'
                      go_simp
                      with_reducible rfl
                    rotate_left
                    · simp only [Act.put, List.setIfInBounds_toArray, List.set_cons_zero, List.set_cons_succ, i64_w, i32_w]
                      rfl
                    refine pure_ (i := 5) (N := some 85) (v := ?_) (a' := ?_) #[true, false, true, true, true, true, false, false, false, false, false, false, false, false, false, false, false, false, false, false, false] rfl rfl (by kernel_rfl) (fun _ _ _ h => h) (Or.inl ⟨by rfl, ?_⟩) ?_ ?_
                    rotate_left
                    · intro w'
                      go_simp
                      with_reducible rfl
                    rotate_left
                    · simp only [Act.put, List.setIfInBounds_toArray, List.set_cons_zero, List.set_cons_succ, i64_w, i32_w]
                      rfl
                    refine pure_ (i := 6) (N := some 86) (v := ?_) (a' := ?_) #[true, false, true, true, true, true, true, false, false, false, false, false, false, false, false, false, false, false, false, false, false] rfl rfl (by kernel_rfl) (fun _ _ _ h => h) (Or.inl ⟨by rfl, ?_⟩) ?_ ?_
                    rotate_left
                    · intro w'
                      go_simp
                      with_reducible rfl
                    rotate_left
                    · simp only [Act.put, List.setIfInBounds_toArray, List.set_cons_zero, List.set_cons_succ, i64_w, i32_w]
                      rfl
                    refine pure_ (i := 9) (N := some 89) (v := ?_) (a' := ?_) #[true, false, true, true, true, true, true, false, false, true, false, false, false, false, false, false, false, false, false, false, false] rfl rfl (by kernel_rfl) (fun _ _ _ h => h) (Or.inl ⟨by rfl, ?_⟩) ?_ ?_
                    rotate_left
                    · intro w'
                      go_simp
                      with_reducible rfl
                    rotate_left
                    · simp only [Act.put, List.setIfInBounds_toArray, List.set_cons_zero, List.set_cons_succ, i64_w, i32_w]
                      rfl
                    refine pure_ (i := 10) (N := some 90) (v := ?_) (a' := ?_) #[true, false, true, true, true, true, true, false, false, true, true, false, false, false, false, false, false, false, false, false, false] rfl rfl (by kernel_rfl) (fun _ _ _ h => h) (Or.inl ⟨by rfl, ?_⟩) ?_ ?_
                    rotate_left
                    · intro w'
                      go_simp
                      with_reducible rfl
                    rotate_left
                    · simp only [Act.put, List.setIfInBounds_toArray, List.set_cons_zero, List.set_cons_succ, i64_w, i32_w]
                      rfl
                    refine pure_ (i := 11) (N := some 91) (v := ?_) (a' := ?_) #[true, false, true, true, true, true, true, false, false, true, true, true, false, false, false, false, false, false, false, false, false] rfl rfl (by kernel_rfl) (fun _ _ _ h => h) (Or.inl ⟨by rfl, ?_⟩) ?_ ?_
                    rotate_left
                    · intro w'
                      go_simp
                      with_reducible rfl
                    rotate_left
                    · simp only [Act.put, List.setIfInBounds_toArray, List.set_cons_zero, List.set_cons_succ, i64_w, i32_w]
                      rfl
                    refine pure_ (i := 12) (N := some 92) (v := ?_) (a' := ?_) #[true, false, true, true, true, true, true, false, false, true, true, true, true, false, false, false, false, false, false, false, false] rfl rfl (by kernel_rfl) (fun _ _ _ h => h) (Or.inl ⟨by rfl, ?_⟩) ?_ ?_
                    rotate_left
                    · intro w'
                      go_simp
                      with_reducible rfl
                    rotate_left
                    · simp only [Act.put, List.setIfInBounds_toArray, List.set_cons_zero, List.set_cons_succ, i64_w, i32_w]
                      rfl
                    refine pure_ (i := 13) (N := some 93) (v := ?_) (a' := ?_) #[true, false, true, true, true, true, true, false, false, true, true, true, true, true, false, false, false, false, false, false, false] rfl rfl (by kernel_rfl) (fun _ _ _ h => h) (Or.inl ⟨by rfl, ?_⟩) ?_ ?_
                    rotate_left
                    · intro w'
                      go_simp
                      with_reducible rfl
                    rotate_left
                    · simp only [Act.put, List.setIfInBounds_toArray, List.set_cons_zero, List.set_cons_succ, i64_w, i32_w]
                      rfl
                    refine take_ (i := 1) (N := some 81) (v := ?_) (a' := ?_) #[true, true, true, true, true, true, true, false, false, true, true, true, true, true, false, false, false, false, false, false, false] rfl rfl (by kernel_rfl) (fun _ _ _ h => h) (Or.inl ⟨by rfl, ?_⟩) hHeld ?_ ?_
                    rotate_left
                    · rintro w' ⟨s0, s1, s2⟩
                      go_simp
                      with_reducible rfl
                    rotate_left
                    · simp only [Act.put, List.setIfInBounds_toArray, List.set_cons_zero, List.set_cons_succ, i64_w, i32_w]
                      rfl
                    refine take_ (i := 7) (N := some 87) (v := ?_) (a' := ?_) #[true, true, true, true, true, true, true, true, false, true, true, true, true, true, false, false, false, false, false, false, false] rfl rfl (by kernel_rfl) (fun _ _ _ h => h) (Or.inl ⟨by rfl, ?_⟩) hHeld ?_ ?_
                    rotate_left
                    · rintro w' ⟨s0, s1, s2⟩
                      go_simp
                      with_reducible rfl
                    rotate_left
                    · simp only [Act.put, List.setIfInBounds_toArray, List.set_cons_zero, List.set_cons_succ, i64_w, i32_w]
                      rfl
                    refine pure_ (i := 8) (N := some 88) (v := ?_) (a' := ?_) #[true, true, true, true, true, true, true, true, true, true, true, true, true, true, false, false, false, false, false, false, false] rfl rfl (by kernel_rfl) (fun _ _ _ h => h) (Or.inl ⟨by rfl, ?_⟩) ?_ ?_
                    rotate_left
                    · intro w'
                      go_simp
                      with_reducible rfl
                    rotate_left
                    · simp only [Act.put, List.setIfInBounds_toArray, List.set_cons_zero, List.set_cons_succ, i64_w, i32_w]
                      rfl
                    refine take_ (i := 14) (N := some 94) (v := ?_) (a' := ?_) #[true, true, true, true, true, true, true, true, true, true, true, true, true, true, true, false, false, false, false, false, false] rfl rfl (by kernel_rfl) (fun _ _ _ h => h) (Or.inl ⟨by rfl, ?_⟩) hHeld ?_ ?_
                    rotate_left
                    · rintro w' ⟨s0, s1, s2⟩
                      go_simp
                      with_reducible rfl
                    rotate_left
                    · simp only [Act.put, List.setIfInBounds_toArray, List.set_cons_zero, List.set_cons_succ, i64_w, i32_w]
                      rfl
                    refine pure_ (i := 15) (N := some 95) (v := ?_) (a' := ?_) #[true, true, true, true, true, true, true, true, true, true, true, true, true, true, true, true, false, false, false, false, false] rfl rfl (by kernel_rfl) (fun _ _ _ h => h) (Or.inl ⟨by rfl, ?_⟩) ?_ ?_
                    rotate_left
                    · intro w'
                      go_simp
                      with_reducible rfl
                    rotate_left
                    · simp only [Act.put, List.setIfInBounds_toArray, List.set_cons_zero, List.set_cons_succ, i64_w, i32_w]
                      rfl
                    refine pure_ (i := 16) (N := some 96) (v := ?_) (a' := ?_) #[true, true, true, true, true, true, true, true, true, true, true, true, true, true, true, true, true, false, false, false, false] rfl rfl (by kernel_rfl) (fun _ _ _ h => h) (Or.inl ⟨by rfl, ?_⟩) ?_ ?_
                    rotate_left
                    · intro w'
                      go_simp
                      with_reducible rfl
                    rotate_left
                    · simp only [Act.put, List.setIfInBounds_toArray, List.set_cons_zero, List.set_cons_succ, i64_w, i32_w]
                      rfl
                    refine one_ (i := 17) (N := some 97) #[true, true, true, true, true, true, true, true, true, true, true, true, true, true, true, true, true, true, false, false, false] rfl rfl (by kernel_rfl) (by decide) (fun K hK => ?_)
                    refine value_ (w1 := ?_) (v := ?_) (by rfl) rfl ?_ ?_
                    rotate_left 2
                    · go_simp
                      constructor
                      · rfl
                      · rfl
                    refine hK.out _ _ ⟨(HXd.out.alloc _).c0, pw_cell_below (HXd.out.alloc _).bel HYw0.out, pw_cell_below (HXd.out.alloc _).bel HYw1.out⟩ (fun hHeld => ?_)
                    clear hK K
                    refine norm_ (a' := ?_) ?_ ?_
                    rotate_left
                    · show Act.put _ (some 97) _ = _
                      simp only [Act.put, List.setIfInBounds_toArray, List.set_cons_zero, List.set_cons_succ, i64_w, i32_w]
                      rfl
                    refine one_ (i := 18) (N := some 98) #[true, true, true, true, true, true, true, true, true, true, true, true, true, true, true, true, true, true, true, false, false] rfl rfl (by kernel_rfl) (by decide) (fun K hK => ?_)
                    refine Kd.R_append_step k64 (w0 := wd) (w.heap.size + 3) (by rfl) (.tmp 81) (.tmp 97) 24 64 (.agg #[(.int .i64 0), (.int .i64 0)]) 16 rfl Try.underlying24 info_64 rfl (by decide) (by omega) _ (parts (ws.drop 6) i) (⟨y0, y1⟩ : S64) [.int .i64 y0, .int .i64 y1] (fun j => w.heap.size + 3 ≤ j) (fun _ => False) rfl rfl ?aP (fun _ h => h.elim) ?aF ?aO ?aB ?aS ?aL ?_
                    (case aP => exact k64_mkM _ _ _ (⟨y0, y1⟩ : S64))
                    (case aF => exact fun k hk => by have := HXd.out.size; omega)
                    (case aO => exact HRd.out)
                    (case aB => exact Below.refl _ _)
                    (case aS => exact HXd.out.size)
                    (case aL => rw [parts_length]; omega)
                    intro v1 w6 ho hb hg hat
                    obtain ⟨A6, n6, c6, rfl⟩ : ∃ A n c, v1 = .slice A n c := by obtain ⟨A, c, h⟩ := Kd.R_slice ho; exact ⟨A, _, c, h⟩
                    have HX6 := Aside0.mk (HXd.out.to hb (Nat.le_refl _))
                    have HO6 : Aside0 (Kd.R k64 64 w6 (w.heap.size + 3) (fun j => w.heap.size + 3 ≤ j) (.slice A6 n6 c6) (parts (ws.drop 6) (i + 1))) := ⟨by rw [parts_succ]; have h := ho; rw [HY0.out, HY1.out] at h; exact h⟩
                    skip
                    clear ho hb hg hat
                    refine hK.out _ _ ⟨HX6.out.c0, pw_cell_below HX6.out.bel HYw0.out, pw_cell_below HX6.out.bel HYw1.out⟩ (fun hHeld => ?_)
                    clear hK K
                    refine norm_ (a' := ?_) ?_ ?_
                    rotate_left
                    · show Act.put _ (some 98) _ = _
                      simp only [Act.put, List.setIfInBounds_toArray, List.set_cons_zero, List.set_cons_succ, i64_w, i32_w]
                      rfl
                    refine pure_ (i := 19) (N := some 99) (v := ?_) (a' := ?_) #[true, true, true, true, true, true, true, true, true, true, true, true, true, true, true, true, true, true, true, true, false] rfl rfl (by kernel_rfl) (fun _ _ _ h => h) (Or.inl ⟨by rfl, ?_⟩) ?_ ?_
                    rotate_left
                    · intro w'
                      go_simp
                      with_reducible rfl
                    rotate_left
                    · simp only [Act.put, List.setIfInBounds_toArray, List.set_cons_zero, List.set_cons_succ, i64_w, i32_w]
                      rfl
                    refine last_ (i := 20) (N := none) #[true, true, true, true, true, true, true, true, true, true, true, true, true, true, true, true, true, true, true, true, true] rfl rfl (by kernel_rfl) (by decide) (fun K hK => ?_)
                    have hc6 := HX6.out.c0
                    have hf6 := HX6.out.f0
                    refine skip_ (w1 := ?_) (by rfl) rfl ?_ ?_
                    rotate_left
                    · go_simp
                      rfl
                    refine hK.out _ _ ?_
                    clear hK K
                    refine done_ (by kernel_rfl) ?_
                    have HXn := Aside0.mk (HX6.out.s0 (.slice A6 n6 c6))
                    have HRn := Aside0.mk (R_setx (g := w.heap.size + 2) (i := 0) (u := .slice A6 n6 c6) HO6.out (by omega))
                    clear HX6 HO6
                    go_wp2
                    go_roundw
                    case rel => exact ⟨i + 1, .slice A6 n6 c6, by omega, by go_num, HXn, HRn⟩
                    case measure => simp [intOf]; omega
                  · obtain rfl : p = i := by omega
                    clear hi hlt
                    have hd : decide (p < p) = false := decide_eq_false (by omega)
                    have hcx := HXr.out.c0
                    have HXa := HXr
                    have HRa := HRr
                    clear HXr HRr
                    go_wp2_with fail
                    go_loopw [11] (fun v wr => ∃ (i : Nat) (v1 : Value), i ≤ q ∧ v = .int .i64 i ∧ Aside0 (RX w wr (.slice A0v l0v c0v) v1 (.int .i64 0) (.slice none 0 0) (.int .i64 0) (.slice none 0 0)) ∧ Aside0 (Kd.R k68 68 wr (w.heap.size + 3) (fun j => w.heap.size + 3 ≤ j) v1 (chans ((ws.drop 6).drop (2 * p)) i)) ∧ Aside0 (Kd.R k64 64 wr (w.heap.size + 3) (fun j => w.heap.size + 3 ≤ j) (.slice A0v l0v c0v) (parts (ws.drop 6) p))) (fun v _ => q - (intOf v).toNat)
                    case atStart => exact ⟨0, .slice none 0 0, by omega, rfl, HXa, ⟨by simpa [chans] using Kd.R_nil k68 68 wr (w.heap.size + 3) (fun j => w.heap.size + 3 ≤ j)⟩, HRa⟩
                    case round =>
                      obtain ⟨i, v1, hi, rfl, HXr, HRr, HRp⟩ := hrel
                      obtain ⟨Aw, cw, rfl⟩ := Kd.R_slice HRr.out
                      obtain ⟨lw, hlv⟩ : ∃ l, (chans ((ws.drop 6).drop (2 * p)) i).length = l := ⟨_, rfl⟩
                      rw [hlv] at HXr HRr
                      clear hlv
                      by_cases hlt : i < q
                      · have hd : decide (i < q) = true := decide_eq_true hlt
                        have hoff : ws.drop (6 + 2 * p) = ((ws.drop 6).drop (2 * p)) := by rw [List.drop_drop]
                        obtain ⟨mp, hmp⟩ : ∃ m : Int, 2 * (p : Int) = m := ⟨_, rfl⟩
                        have ep : IntKind.i64.wrap (2 * (p : Int)) = mp := by rw [i64_w]; unfold wrap64; omega
                        obtain ⟨mq, hmq⟩ : ∃ m : Int, 6 + mp = m := ⟨_, rfl⟩
                        have eq_ : IntKind.i64.wrap (6 + mp) = mq := by rw [i64_w]; unfold wrap64; omega
                        obtain ⟨m7, hm7⟩ : ∃ m : Int, 7 * (i : Int) = m := ⟨_, rfl⟩
                        have e7 : IntKind.i64.wrap (7 * (i : Int)) = m7 := by rw [i64_w]; unfold wrap64; omega
                        obtain ⟨j0, hj0⟩ : ∃ j : Int, mq + m7 = j := ⟨_, rfl⟩
                        have ej0 : IntKind.i64.wrap (mq + m7) = j0 := by rw [i64_w]; unfold wrap64; omega
                        have hNN := HNN.out
                        unfold cntW at hNN
                        have h0j0 : 0 ≤ j0 := by omega
                        have h1j0 : j0 < (N : Int) := by omega
                        have HJ0 : Aside0 (((6 + 2 * p + (7 * i + 0) : Nat) : Int) = j0) := ⟨by omega⟩
                        obtain ⟨j1, hj1⟩ : ∃ j : Int, j0 + 1 = j := ⟨_, rfl⟩
                        have ej1 : IntKind.i64.wrap (j0 + 1) = j1 := by rw [i64_w]; unfold wrap64; omega
                        have h0j1 : 0 ≤ j1 := by omega
                        have h1j1 : j1 < (N : Int) := by omega
                        have HJ1 : Aside0 (((6 + 2 * p + (7 * i + 1) : Nat) : Int) = j1) := ⟨by omega⟩
                        obtain ⟨j2, hj2⟩ : ∃ j : Int, j0 + 2 = j := ⟨_, rfl⟩
                        have ej2 : IntKind.i64.wrap (j0 + 2) = j2 := by rw [i64_w]; unfold wrap64; omega
                        have h0j2 : 0 ≤ j2 := by omega
                        have h1j2 : j2 < (N : Int) := by omega
                        have HJ2 : Aside0 (((6 + 2 * p + (7 * i + 2) : Nat) : Int) = j2) := ⟨by omega⟩
                        obtain ⟨j3, hj3⟩ : ∃ j : Int, j0 + 3 = j := ⟨_, rfl⟩
                        have ej3 : IntKind.i64.wrap (j0 + 3) = j3 := by rw [i64_w]; unfold wrap64; omega
                        have h0j3 : 0 ≤ j3 := by omega
                        have h1j3 : j3 < (N : Int) := by omega
                        have HJ3 : Aside0 (((6 + 2 * p + (7 * i + 3) : Nat) : Int) = j3) := ⟨by omega⟩
                        obtain ⟨j4, hj4⟩ : ∃ j : Int, j0 + 4 = j := ⟨_, rfl⟩
                        have ej4 : IntKind.i64.wrap (j0 + 4) = j4 := by rw [i64_w]; unfold wrap64; omega
                        have h0j4 : 0 ≤ j4 := by omega
                        have h1j4 : j4 < (N : Int) := by omega
                        have HJ4 : Aside0 (((6 + 2 * p + (7 * i + 4) : Nat) : Int) = j4) := ⟨by omega⟩
                        obtain ⟨j5, hj5⟩ : ∃ j : Int, j0 + 5 = j := ⟨_, rfl⟩
                        have ej5 : IntKind.i64.wrap (j0 + 5) = j5 := by rw [i64_w]; unfold wrap64; omega
                        have h0j5 : 0 ≤ j5 := by omega
                        have h1j5 : j5 < (N : Int) := by omega
                        have HJ5 : Aside0 (((6 + 2 * p + (7 * i + 5) : Nat) : Int) = j5) := ⟨by omega⟩
                        obtain ⟨j6, hj6⟩ : ∃ j : Int, j0 + 6 = j := ⟨_, rfl⟩
                        have ej6 : IntKind.i64.wrap (j0 + 6) = j6 := by rw [i64_w]; unfold wrap64; omega
                        have h0j6 : 0 ≤ j6 := by omega
                        have h1j6 : j6 < (N : Int) := by omega
                        have HJ6 : Aside0 (((6 + 2 * p + (7 * i + 6) : Nat) : Int) = j6) := ⟨by omega⟩
                        clear hmp hmq hm7 hNN hj0 hj1 hj2 hj3 hj4 hj5 hj6
                        obtain ⟨ax0, ex0, hy0⟩ := Kd.at_int HRW.out j0 h0j0 (by rw [HLN.out]; exact h1j0)
                        cases ex0
                        have hby0 := words_at (HW.out.drop (6 + 2 * p)) (7 * i + 0)
                        have hry0 : rd ws j0 = ((ws.drop 6).drop (2 * p)).getD (7 * i + 0) 0 := by rw [← HJ0.out, ← hoff]; exact rdd ws (6 + 2 * p) (7 * i + 0)
                        rw [hoff, ← hry0] at hby0
                        obtain ⟨y0, hgy0⟩ : ∃ y, rd ws j0 = y := ⟨_, rfl⟩
                        rw [hgy0] at hy0 hby0 hry0
                        have HY0 := Aside0.mk hry0
                        have HYw0 := Aside0.mk hy0
                        have hYc0 := pw_cell_below HXr.out.bel hy0
                        have p0j0 := eq_true h0j0
                        have p1j0 := eq_true h1j0
                        have hcv0 : IntKind.i64.wrap y0 = y0 := by rw [i64_w]; unfold wrap64; omega
                        clear hry0 hgy0 hy0 hby0 h0j0 h1j0
                        obtain ⟨ax1, ex1, hy1⟩ := Kd.at_int HRW.out j1 h0j1 (by rw [HLN.out]; exact h1j1)
                        cases ex1
                        have hby1 := words_at (HW.out.drop (6 + 2 * p)) (7 * i + 1)
                        have hry1 : rd ws j1 = ((ws.drop 6).drop (2 * p)).getD (7 * i + 1) 0 := by rw [← HJ1.out, ← hoff]; exact rdd ws (6 + 2 * p) (7 * i + 1)
                        rw [hoff, ← hry1] at hby1
                        obtain ⟨y1, hgy1⟩ : ∃ y, rd ws j1 = y := ⟨_, rfl⟩
                        rw [hgy1] at hy1 hby1 hry1
                        have HY1 := Aside0.mk hry1
                        have HYw1 := Aside0.mk hy1
                        have hYc1 := pw_cell_below HXr.out.bel hy1
                        have p0j1 := eq_true h0j1
                        have p1j1 := eq_true h1j1
                        have hcv1 : IntKind.i64.wrap y1 = y1 := by rw [i64_w]; unfold wrap64; omega
                        clear hry1 hgy1 hy1 hby1 h0j1 h1j1
                        obtain ⟨ax2, ex2, hy2⟩ := Kd.at_int HRW.out j2 h0j2 (by rw [HLN.out]; exact h1j2)
                        cases ex2
                        have hby2 := words_at (HW.out.drop (6 + 2 * p)) (7 * i + 2)
                        have hry2 : rd ws j2 = ((ws.drop 6).drop (2 * p)).getD (7 * i + 2) 0 := by rw [← HJ2.out, ← hoff]; exact rdd ws (6 + 2 * p) (7 * i + 2)
                        rw [hoff, ← hry2] at hby2
                        obtain ⟨y2, hgy2⟩ : ∃ y, rd ws j2 = y := ⟨_, rfl⟩
                        rw [hgy2] at hy2 hby2 hry2
                        have HY2 := Aside0.mk hry2
                        have HYw2 := Aside0.mk hy2
                        have hYc2 := pw_cell_below HXr.out.bel hy2
                        have p0j2 := eq_true h0j2
                        have p1j2 := eq_true h1j2
                        have hcv2 : IntKind.i64.wrap y2 = y2 := by rw [i64_w]; unfold wrap64; omega
                        clear hry2 hgy2 hy2 hby2 h0j2 h1j2
                        obtain ⟨ax3, ex3, hy3⟩ := Kd.at_int HRW.out j3 h0j3 (by rw [HLN.out]; exact h1j3)
                        cases ex3
                        have hby3 := words_at (HW.out.drop (6 + 2 * p)) (7 * i + 3)
                        have hry3 : rd ws j3 = ((ws.drop 6).drop (2 * p)).getD (7 * i + 3) 0 := by rw [← HJ3.out, ← hoff]; exact rdd ws (6 + 2 * p) (7 * i + 3)
                        rw [hoff, ← hry3] at hby3
                        obtain ⟨y3, hgy3⟩ : ∃ y, rd ws j3 = y := ⟨_, rfl⟩
                        rw [hgy3] at hy3 hby3 hry3
                        have HY3 := Aside0.mk hry3
                        have HYw3 := Aside0.mk hy3
                        have hYc3 := pw_cell_below HXr.out.bel hy3
                        have p0j3 := eq_true h0j3
                        have p1j3 := eq_true h1j3
                        have hcv3 : IntKind.i64.wrap y3 = y3 := by rw [i64_w]; unfold wrap64; omega
                        clear hry3 hgy3 hy3 hby3 h0j3 h1j3
                        obtain ⟨ax4, ex4, hy4⟩ := Kd.at_int HRW.out j4 h0j4 (by rw [HLN.out]; exact h1j4)
                        cases ex4
                        have hby4 := words_at (HW.out.drop (6 + 2 * p)) (7 * i + 4)
                        have hry4 : rd ws j4 = ((ws.drop 6).drop (2 * p)).getD (7 * i + 4) 0 := by rw [← HJ4.out, ← hoff]; exact rdd ws (6 + 2 * p) (7 * i + 4)
                        rw [hoff, ← hry4] at hby4
                        obtain ⟨y4, hgy4⟩ : ∃ y, rd ws j4 = y := ⟨_, rfl⟩
                        rw [hgy4] at hy4 hby4 hry4
                        have HY4 := Aside0.mk hry4
                        have HYw4 := Aside0.mk hy4
                        have hYc4 := pw_cell_below HXr.out.bel hy4
                        have p0j4 := eq_true h0j4
                        have p1j4 := eq_true h1j4
                        have hcv4 : IntKind.i64.wrap y4 = y4 := by rw [i64_w]; unfold wrap64; omega
                        clear hry4 hgy4 hy4 hby4 h0j4 h1j4
                        obtain ⟨ax5, ex5, hy5⟩ := Kd.at_int HRW.out j5 h0j5 (by rw [HLN.out]; exact h1j5)
                        cases ex5
                        have hby5 := words_at (HW.out.drop (6 + 2 * p)) (7 * i + 5)
                        have hry5 : rd ws j5 = ((ws.drop 6).drop (2 * p)).getD (7 * i + 5) 0 := by rw [← HJ5.out, ← hoff]; exact rdd ws (6 + 2 * p) (7 * i + 5)
                        rw [hoff, ← hry5] at hby5
                        obtain ⟨y5, hgy5⟩ : ∃ y, rd ws j5 = y := ⟨_, rfl⟩
                        rw [hgy5] at hy5 hby5 hry5
                        have HY5 := Aside0.mk hry5
                        have HYw5 := Aside0.mk hy5
                        have hYc5 := pw_cell_below HXr.out.bel hy5
                        have p0j5 := eq_true h0j5
                        have p1j5 := eq_true h1j5
                        have hcv5 : IntKind.i64.wrap y5 = y5 := by rw [i64_w]; unfold wrap64; omega
                        clear hry5 hgy5 hy5 hby5 h0j5 h1j5
                        obtain ⟨ax6, ex6, hy6⟩ := Kd.at_int HRW.out j6 h0j6 (by rw [HLN.out]; exact h1j6)
                        cases ex6
                        have hby6 := words_at (HW.out.drop (6 + 2 * p)) (7 * i + 6)
                        have hry6 : rd ws j6 = ((ws.drop 6).drop (2 * p)).getD (7 * i + 6) 0 := by rw [← HJ6.out, ← hoff]; exact rdd ws (6 + 2 * p) (7 * i + 6)
                        rw [hoff, ← hry6] at hby6
                        obtain ⟨y6, hgy6⟩ : ∃ y, rd ws j6 = y := ⟨_, rfl⟩
                        rw [hgy6] at hy6 hby6 hry6
                        have HY6 := Aside0.mk hry6
                        have HYw6 := Aside0.mk hy6
                        have hYc6 := pw_cell_below HXr.out.bel hy6
                        have p0j6 := eq_true h0j6
                        have p1j6 := eq_true h1j6
                        clear hry6 hgy6 hy6 hby6 h0j6 h1j6
                        clear hoff
                        have hcx := HXr.out.c1
                        go_wp2_with fail
                        have HXd := Aside0.mk HXr.out.drew
                        have HRd := Aside0.mk (Kd.R_drew HRr.out)
                        have HRpd := Aside0.mk (Kd.R_drew HRp.out)
                        refine start_ (n := 47) (S := fun w' => w'.cell? ⟨w.heap.size + 2, 1, none⟩ = some (.slice Aw lw cw) ∧ w'.cell? (ad.add j0.toNat) = some (.int .u32 y0) ∧ w'.cell? (ad.add j1.toNat) = some (.int .u32 y1) ∧ w'.cell? (ad.add j2.toNat) = some (.int .u32 y2) ∧ w'.cell? (ad.add j3.toNat) = some (.int .u32 y3) ∧ w'.cell? (ad.add j4.toNat) = some (.int .u32 y4) ∧ w'.cell? (ad.add j5.toNat) = some (.int .u32 y5) ∧ w'.cell? (ad.add j6.toNat) = some (.int .u32 y6)) (ds := [46]) #[false, false, false, false, false, false, false, false, false, false, false, false, false, false, false, false, false, false, false, false, false, false, false, false, false, false, false, false, false, false, false, false, false, false, false, false, false, false, false, false, false, false, false, false, false, false, false] (by kernel_rfl) rfl rfl ⟨HXr.out.drew.c1, pw_cell_below HXr.out.drew.bel HYw0.out, pw_cell_below HXr.out.drew.bel HYw1.out, pw_cell_below HXr.out.drew.bel HYw2.out, pw_cell_below HXr.out.drew.bel HYw3.out, pw_cell_below HXr.out.drew.bel HYw4.out, pw_cell_below HXr.out.drew.bel HYw5.out, pw_cell_below HXr.out.drew.bel HYw6.out⟩ (fun hHeld => ?_)
                        generalize wr.drew = wd at HXd HRd HRpd hHeld ⊢
                        refine pure_ (i := 0) (N := some 111) (v := ?_) (a' := ?_) #[true, false, false, false, false, false, false, false, false, false, false, false, false, false, false, false, false, false, false, false, false, false, false, false, false, false, false, false, false, false, false, false, false, false, false, false, false, false, false, false, false, false, false, false, false, false, false] rfl rfl (by kernel_rfl) (fun _ _ _ h => h) (Or.inl ⟨by rfl, ?_⟩) ?_ ?_
                        rotate_left
                        · intro w'
                          go_simp
                          with_reducible rfl
                        rotate_left
                        · simp only [Act.put, List.setIfInBounds_toArray, List.set_cons_zero, List.set_cons_succ, i64_w, i32_w]
                          rfl
                        refine pure_ (i := 2) (N := some 113) (v := ?_) (a' := ?_) #[true, false, true, false, false, false, false, false, false, false, false, false, false, false, false, false, false, false, false, false, false, false, false, false, false, false, false, false, false, false, false, false, false, false, false, false, false, false, false, false, false, false, false, false, false, false, false] rfl rfl (by kernel_rfl) (fun _ _ _ h => h) (Or.inl ⟨by rfl, ?_⟩) ?_ ?_
                        rotate_left
                        · intro w'
                          go_simp
                          with_reducible rfl
                        rotate_left
                        · simp only [Act.put, List.setIfInBounds_toArray, List.set_cons_zero, List.set_cons_succ, i64_w, i32_w]
                          rfl
                        refine pure_ (i := 3) (N := some 114) (v := ?_) (a' := ?_) #[true, false, true, true, false, false, false, false, false, false, false, false, false, false, false, false, false, false, false, false, false, false, false, false, false, false, false, false, false, false, false, false, false, false, false, false, false, false, false, false, false, false, false, false, false, false, false] rfl rfl (by kernel_rfl) (fun _ _ _ h => h) (Or.inl ⟨by rfl, ?_⟩) ?_ ?_
                        rotate_left
                        · intro w'
                          go_simp
                          with_reducible rfl
                        rotate_left
                        · simp only [Act.put, List.setIfInBounds_toArray, List.set_cons_zero, List.set_cons_succ, i64_w, i32_w]
                          rfl
                        refine pure_ (i := 4) (N := some 115) (v := ?_) (a' := ?_) #[true, false, true, true, true, false, false, false, false, false, false, false, false, false, false, false, false, false, false, false, false, false, false, false, false, false, false, false, false, false, false, false, false, false, false, false, false, false, false, false, false, false, false, false, false, false, false] rfl rfl (by kernel_rfl) (fun _ _ _ h => h) (Or.inl ⟨by rfl, ?_⟩) ?_ ?_
                        rotate_left
                        · intro w'
                          go_simp
                          with_reducible rfl
                        rotate_left
                        · simp only [Act.put, List.setIfInBounds_toArray, List.set_cons_zero, List.set_cons_succ, i64_w, i32_w]
                          rfl
                        refine pure_ (i := 7) (N := some 118) (v := ?_) (a' := ?_) #[true, false, true, true, true, false, false, true, false, false, false, false, false, false, false, false, false, false, false, false, false, false, false, false, false, false, false, false, false, false, false, false, false, false, false, false, false, false, false, false, false, false, false, false, false, false, false] rfl rfl (by kernel_rfl) (fun _ _ _ h => h) (Or.inl ⟨by rfl, ?_⟩) ?_ ?_
                        rotate_left
                        · intro w'
                          go_simp
                          with_reducible rfl
                        rotate_left
                        · simp only [Act.put, List.setIfInBounds_toArray, List.set_cons_zero, List.set_cons_succ, i64_w, i32_w]
                          rfl
                        refine pure_ (i := 8) (N := some 119) (v := ?_) (a' := ?_) #[true, false, true, true, true, false, false, true, true, false, false, false, false, false, false, false, false, false, false, false, false, false, false, false, false, false, false, false, false, false, false, false, false, false, false, false, false, false, false, false, false, false, false, false, false, false, false] rfl rfl (by kernel_rfl) (fun _ _ _ h => h) (Or.inl ⟨by rfl, ?_⟩) ?_ ?_
                        rotate_left
                        · intro w'
                          go_simp
                          with_reducible rfl
                        rotate_left
                        · simp only [Act.put, List.setIfInBounds_toArray, List.set_cons_zero, List.set_cons_succ, i64_w, i32_w]
                          rfl
                        refine pure_ (i := 9) (N := some 120) (v := ?_) (a' := ?_) #[true, false, true, true, true, false, false, true, true, true, false, false, false, false, false, false, false, false, false, false, false, false, false, false, false, false, false, false, false, false, false, false, false, false, false, false, false, false, false, false, false, false, false, false, false, false, false] rfl rfl (by kernel_rfl) (fun _ _ _ h => h) (Or.inl ⟨by rfl, ?_⟩) ?_ ?_
                        rotate_left
                        · intro w'
                          go_simp
                          with_reducible rfl
                        rotate_left
                        · simp only [Act.put, List.setIfInBounds_toArray, List.set_cons_zero, List.set_cons_succ, i64_w, i32_w]
                          rfl
                        refine pure_ (i := 10) (N := some 121) (v := ?_) (a' := ?_) #[true, false, true, true, true, false, false, true, true, true, true, false, false, false, false, false, false, false, false, false, false, false, false, false, false, false, false, false, false, false, false, false, false, false, false, false, false, false, false, false, false, false, false, false, false, false, false] rfl rfl (by kernel_rfl) (fun _ _ _ h => h) (Or.inl ⟨by rfl, ?_⟩) ?_ ?_
                        rotate_left
                        · intro w'
                          go_simp
                          with_reducible rfl
                        rotate_left
                        · simp only [Act.put, List.setIfInBounds_toArray, List.set_cons_zero, List.set_cons_succ, i64_w, i32_w]
                          rfl
                        refine pure_ (i := 13) (N := some 124) (v := ?_) (a' := ?_) #[true, false, true, true, true, false, false, true, true, true, true, false, false, true, false, false, false, false, false, false, false, false, false, false, false, false, false, false, false, false, false, false, false, false, false, false, false, false, false, false, false, false, false, false, false, false, false] rfl rfl (by kernel_rfl) (fun _ _ _ h => h) (Or.inl ⟨by rfl, ?_⟩) ?_ ?_
                        rotate_left
                        · intro w'
                          go_simp
                          with_reducible rfl
                        rotate_left
                        · simp only [Act.put, List.setIfInBounds_toArray, List.set_cons_zero, List.set_cons_succ, i64_w, i32_w]
                          rfl
                        refine pure_ (i := 14) (N := some 125) (v := ?_) (a' := ?_) #[true, false, true, true, true, false, false, true, true, true, true, false, false, true, true, false, false, false, false, false, false, false, false, false, false, false, false, false, false, false, false, false, false, false, false, false, false, false, false, false, false, false, false, false, false, false, false] rfl rfl (by kernel_rfl) (fun _ _ _ h => h) (Or.inl ⟨by rfl, ?_⟩) ?_ ?_
                        rotate_left
                        · intro w'
                          go_simp
                          with_reducible rfl
                        rotate_left
                        · simp only [Act.put, List.setIfInBounds_toArray, List.set_cons_zero, List.set_cons_succ, i64_w, i32_w]
                          rfl
                        refine pure_ (i := 15) (N := some 126) (v := ?_) (a' := ?_) #[true, false, true, true, true, false, false, true, true, true, true, false, false, true, true, true, false, false, false, false, false, false, false, false, false, false, false, false, false, false, false, false, false, false, false, false, false, false, false, false, false, false, false, false, false, false, false] rfl rfl (by kernel_rfl) (fun _ _ _ h => h) (Or.inl ⟨by rfl, ?_⟩) ?_ ?_
                        rotate_left
                        · intro w'
                          go_simp
                          with_reducible rfl
                        rotate_left
                        · simp only [Act.put, List.setIfInBounds_toArray, List.set_cons_zero, List.set_cons_succ, i64_w, i32_w]
                          rfl
                        refine pure_ (i := 16) (N := some 127) (v := ?_) (a' := ?_) #[true, false, true, true, true, false, false, true, true, true, true, false, false, true, true, true, true, false, false, false, false, false, false, false, false, false, false, false, false, false, false, false, false, false, false, false, false, false, false, false, false, false, false, false, false, false, false] rfl rfl (by kernel_rfl) (fun _ _ _ h => h) (Or.inl ⟨by rfl, ?_⟩) ?_ ?_
                        rotate_left
                        · intro w'
                          go_simp
                          with_reducible rfl
                        rotate_left
                        · simp only [Act.put, List.setIfInBounds_toArray, List.set_cons_zero, List.set_cons_succ, i64_w, i32_w]
                          rfl
                        refine pure_ (i := 19) (N := some 130) (v := ?_) (a' := ?_) #[true, false, true, true, true, false, false, true, true, true, true, false, false, true, true, true, true, false, false, true, false, false, false, false, false, false, false, false, false, false, false, false, false, false, false, false, false, false, false, false, false, false, false, false, false, false, false] rfl rfl (by kernel_rfl) (fun _ _ _ h => h) (Or.inl ⟨by rfl, ?_⟩) ?_ ?_
                        rotate_left
                        · intro w'
                          go_simp
                          with_reducible rfl
                        rotate_left
                        · simp only [Act.put, List.setIfInBounds_toArray, List.set_cons_zero, List.set_cons_succ, i64_w, i32_w]
                          rfl
                        refine pure_ (i := 20) (N := some 131) (v := ?_) (a' := ?_) #[true, false, true, true, true, false, false, true, true, true, true, false, false, true, true, true, true, false, false, true, true, false, false, false, false, false, false, false, false, false, false, false, false, false, false, false, false, false, false, false, false, false, false, false, false, false, false] rfl rfl (by kernel_rfl) (fun _ _ _ h => h) (Or.inl ⟨by rfl, ?_⟩) ?_ ?_
                        rotate_left
                        · intro w'
                          go_simp
                          with_reducible rfl
                        rotate_left
                        · simp only [Act.put, List.setIfInBounds_toArray, List.set_cons_zero, List.set_cons_succ, i64_w, i32_w]
                          rfl
                        refine pure_ (i := 21) (N := some 132) (v := ?_) (a' := ?_) #[true, false, true, true, true, false, false, true, true, true, true, false, false, true, true, true, true, false, false, true, true, true, false, false, false, false, false, false, false, false, false, false, false, false, false, false, false, false, false, false, false, false, false, false, false, false, false] rfl rfl (by kernel_rfl) (fun _ _ _ h => h) (Or.inl ⟨by rfl, ?_⟩) ?_ ?_
                        rotate_left
                        · intro w'
                          go_simp
                          with_reducible rfl
                        rotate_left
                        · simp only [Act.put, List.setIfInBounds_toArray, List.set_cons_zero, List.set_cons_succ, i64_w, i32_w]
                          rfl
                        refine pure_ (i := 22) (N := some 133) (v := ?_) (a' := ?_) #[true, false, true, true, true, false, false, true, true, true, true, false, false, true, true, true, true, false, false, true, true, true, true, false, false, false, false, false, false, false, false, false, false, false, false, false, false, false, false, false, false, false, false, false, false, false, false] rfl rfl (by kernel_rfl) (fun _ _ _ h => h) (Or.inl ⟨by rfl, ?_⟩) ?_ ?_
                        rotate_left
                        · intro w'
                          go_simp
                          with_reducible rfl
                        rotate_left
                        · simp only [Act.put, List.setIfInBounds_toArray, List.set_cons_zero, List.set_cons_succ, i64_w, i32_w]
                          rfl
                        refine pure_ (i := 25) (N := some 136) (v := ?_) (a' := ?_) #[true, false, true, true, true, false, false, true, true, true, true, false, false, true, true, true, true, false, false, true, true, true, true, false, false, true, false, false, false, false, false, false, false, false, false, false, false, false, false, false, false, false, false, false, false, false, false] rfl rfl (by kernel_rfl) (fun _ _ _ h => h) (Or.inl ⟨by rfl, ?_⟩) ?_ ?_
                        rotate_left
                        · intro w'
                          go_simp
                          with_reducible rfl
                        rotate_left
                        · simp only [Act.put, List.setIfInBounds_toArray, List.set_cons_zero, List.set_cons_succ, i64_w, i32_w]
                          rfl
                        refine pure_ (i := 26) (N := some 137) (v := ?_) (a' := ?_) #[true, false, true, true, true, false, false, true, true, true, true, false, false, true, true, true, true, false, false, true, true, true, true, false, false, true, true, false, false, false, false, false, false, false, false, false, false, false, false, false, false, false, false, false, false, false, false] rfl rfl (by kernel_rfl) (fun _ _ _ h => h) (Or.inl ⟨by rfl, ?_⟩) ?_ ?_
                        rotate_left
                        · intro w'
                          go_simp
                          with_reducible rfl
                        rotate_left
                        · simp only [Act.put, List.setIfInBounds_toArray, List.set_cons_zero, List.set_cons_succ, i64_w, i32_w]
                          rfl
                        refine pure_ (i := 27) (N := some 138) (v := ?_) (a' := ?_) #[true, false, true, true, true, false, false, true, true, true, true, false, false, true, true, true, true, false, false, true, true, true, true, false, false, true, true, true, false, false, false, false, false, false, false, false, false, false, false, false, false, false, false, false, false, false, false] rfl rfl (by kernel_rfl) (fun _ _ _ h => h) (Or.inl ⟨by rfl, ?_⟩) ?_ ?_
                        rotate_left
                        · intro w'
                          go_simp
                          with_reducible rfl
                        rotate_left
                        · simp only [Act.put, List.setIfInBounds_toArray, List.set_cons_zero, List.set_cons_succ, i64_w, i32_w]
                          rfl
                        refine pure_ (i := 28) (N := some 139) (v := ?_) (a' := ?_) #[true, false, true, true, true, false, false, true, true, true, true, false, false, true, true, true, true, false, false, true, true, true, true, false, false, true, true, true, true, false, false, false, false, false, false, false, false, false, false, false, false, false, false, false, false, false, false] rfl rfl (by kernel_rfl) (fun _ _ _ h => h) (Or.inl ⟨by rfl, ?_⟩) ?_ ?_
                        rotate_left
                        · intro w'
                          go_simp
                          with_reducible rfl
                        rotate_left
                        · simp only [Act.put, List.setIfInBounds_toArray, List.set_cons_zero, List.set_cons_succ, i64_w, i32_w]
                          rfl
                        refine pure_ (i := 31) (N := some 142) (v := ?_) (a' := ?_) #[true, false, true, true, true, false, false, true, true, true, true, false, false, true, true, true, true, false, false, true, true, true, true, false, false, true, true, true, true, false, false, true, false, false, false, false, false, false, false, false, false, false, false, false, false, false, false] rfl rfl (by kernel_rfl) (fun _ _ _ h => h) (Or.inl ⟨by rfl, ?_⟩) ?_ ?_
                        rotate_left
                        · intro w'
                          go_simp
                          with_reducible rfl
                        rotate_left
                        · simp only [Act.put, List.setIfInBounds_toArray, List.set_cons_zero, List.set_cons_succ, i64_w, i32_w]
                          rfl
                        refine pure_ (i := 32) (N := some 143) (v := ?_) (a' := ?_) #[true, false, true, true, true, false, false, true, true, true, true, false, false, true, true, true, true, false, false, true, true, true, true, false, false, true, true, true, true, false, false, true, true, false, false, false, false, false, false, false, false, false, false, false, false, false, false] rfl rfl (by kernel_rfl) (fun _ _ _ h => h) (Or.inl ⟨by rfl, ?_⟩) ?_ ?_
                        rotate_left
                        · intro w'
                          go_simp
                          with_reducible rfl
                        rotate_left
                        · simp only [Act.put, List.setIfInBounds_toArray, List.set_cons_zero, List.set_cons_succ, i64_w, i32_w]
                          rfl
                        refine pure_ (i := 33) (N := some 144) (v := ?_) (a' := ?_) #[true, false, true, true, true, false, false, true, true, true, true, false, false, true, true, true, true, false, false, true, true, true, true, false, false, true, true, true, true, false, false, true, true, true, false, false, false, false, false, false, false, false, false, false, false, false, false] rfl rfl (by kernel_rfl) (fun _ _ _ h => h) (Or.inl ⟨by rfl, ?_⟩) ?_ ?_
                        rotate_left
                        · intro w'
                          go_simp
                          with_reducible rfl
                        rotate_left
                        · simp only [Act.put, List.setIfInBounds_toArray, List.set_cons_zero, List.set_cons_succ, i64_w, i32_w]
                          rfl
                        refine pure_ (i := 34) (N := some 145) (v := ?_) (a' := ?_) #[true, false, true, true, true, false, false, true, true, true, true, false, false, true, true, true, true, false, false, true, true, true, true, false, false, true, true, true, true, false, false, true, true, true, true, false, false, false, false, false, false, false, false, false, false, false, false] rfl rfl (by kernel_rfl) (fun _ _ _ h => h) (Or.inl ⟨by rfl, ?_⟩) ?_ ?_
                        rotate_left
                        · intro w'
                          go_simp
                          with_reducible rfl
                        rotate_left
                        · simp only [Act.put, List.setIfInBounds_toArray, List.set_cons_zero, List.set_cons_succ, i64_w, i32_w]
                          rfl
                        refine pure_ (i := 37) (N := some 148) (v := ?_) (a' := ?_) #[true, false, true, true, true, false, false, true, true, true, true, false, false, true, true, true, true, false, false, true, true, true, true, false, false, true, true, true, true, false, false, true, true, true, true, false, false, true, false, false, false, false, false, false, false, false, false] rfl rfl (by kernel_rfl) (fun _ _ _ h => h) (Or.inl ⟨by rfl, ?_⟩) ?_ ?_
                        rotate_left
                        · intro w'
                          go_simp
                          with_reducible rfl
                        rotate_left
                        · simp only [Act.put, List.setIfInBounds_toArray, List.set_cons_zero, List.set_cons_succ, i64_w, i32_w]
                          rfl
                        refine pure_ (i := 38) (N := some 149) (v := ?_) (a' := ?_) #[true, false, true, true, true, false, false, true, true, true, true, false, false, true, true, true, true, false, false, true, true, true, true, false, false, true, true, true, true, false, false, true, true, true, true, false, false, true, true, false, false, false, false, false, false, false, false] rfl rfl (by kernel_rfl) (fun _ _ _ h => h) (Or.inl ⟨by rfl, ?_⟩) ?_ ?_
                        rotate_left
                        · intro w'
                          go_simp
                          with_reducible rfl
                        rotate_left
                        · simp only [Act.put, List.setIfInBounds_toArray, List.set_cons_zero, List.set_cons_succ, i64_w, i32_w]
                          rfl
                        refine pure_ (i := 39) (N := some 150) (v := ?_) (a' := ?_) #[true, false, true, true, true, false, false, true, true, true, true, false, false, true, true, true, true, false, false, true, true, true, true, false, false, true, true, true, true, false, false, true, true, true, true, false, false, true, true, true, false, false, false, false, false, false, false] rfl rfl (by kernel_rfl) (fun _ _ _ h => h) (Or.inl ⟨by rfl, ?_⟩) ?_ ?_
                        rotate_left
                        · intro w'
                          go_simp
                          with_reducible rfl
                        rotate_left
                        · simp only [Act.put, List.setIfInBounds_toArray, List.set_cons_zero, List.set_cons_succ, i64_w, i32_w]
                          rfl
                        refine pure_ (i := 40) (N := some 151) (v := ?_) (a' := ?_) #[true, false, true, true, true, false, false, true, true, true, true, false, false, true, true, true, true, false, false, true, true, true, true, false, false, true, true, true, true, false, false, true, true, true, true, false, false, true, true, true, true, false, false, false, false, false, false] rfl rfl (by kernel_rfl) (fun _ _ _ h => h) (Or.inl ⟨by rfl, ?_⟩) ?_ ?_
                        rotate_left
                        · intro w'
                          go_simp
                          with_reducible rfl
                        rotate_left
                        · simp only [Act.put, List.setIfInBounds_toArray, List.set_cons_zero, List.set_cons_succ, i64_w, i32_w]
                          rfl
                        refine take_ (i := 1) (N := some 112) (v := ?_) (a' := ?_) #[true, true, true, true, true, false, false, true, true, true, true, false, false, true, true, true, true, false, false, true, true, true, true, false, false, true, true, true, true, false, false, true, true, true, true, false, false, true, true, true, true, false, false, false, false, false, false] rfl rfl (by kernel_rfl) (fun _ _ _ h => h) (Or.inl ⟨by rfl, ?_⟩) hHeld ?_ ?_
                        rotate_left
                        · rintro w' ⟨s0, s1, s2, s3, s4, s5, s6, s7⟩
                          go_simp
                          with_reducible rfl
                        rotate_left
                        · simp only [Act.put, List.setIfInBounds_toArray, List.set_cons_zero, List.set_cons_succ, i64_w, i32_w]
                          rfl
                        refine take_ (i := 5) (N := some 116) (v := ?_) (a' := ?_) #[true, true, true, true, true, true, false, true, true, true, true, false, false, true, true, true, true, false, false, true, true, true, true, false, false, true, true, true, true, false, false, true, true, true, true, false, false, true, true, true, true, false, false, false, false, false, false] rfl rfl (by kernel_rfl) (fun _ _ _ h => h) (Or.inl ⟨by rfl, ?_⟩) hHeld ?_ ?_
                        rotate_left
                        · rintro w' ⟨s0, s1, s2, s3, s4, s5, s6, s7⟩
                          go_simp
                          with_reducible rfl
                        rotate_left
                        · simp only [Act.put, List.setIfInBounds_toArray, List.set_cons_zero, List.set_cons_succ, i64_w, i32_w]
                          rfl
                        refine pure_ (i := 6) (N := some 117) (v := ?_) (a' := ?_) #[true, true, true, true, true, true, true, true, true, true, true, false, false, true, true, true, true, false, false, true, true, true, true, false, false, true, true, true, true, false, false, true, true, true, true, false, false, true, true, true, true, false, false, false, false, false, false] rfl rfl (by kernel_rfl) (fun _ _ _ h => h) (Or.inl ⟨by rfl, ?_⟩) ?_ ?_
                        rotate_left
                        · intro w'
                          go_simp
                          with_reducible rfl
                        rotate_left
                        · simp only [Act.put, List.setIfInBounds_toArray, List.set_cons_zero, List.set_cons_succ, i64_w, i32_w]
                          rfl
                        refine take_ (i := 11) (N := some 122) (v := ?_) (a' := ?_) #[true, true, true, true, true, true, true, true, true, true, true, true, false, true, true, true, true, false, false, true, true, true, true, false, false, true, true, true, true, false, false, true, true, true, true, false, false, true, true, true, true, false, false, false, false, false, false] rfl rfl (by kernel_rfl) (fun _ _ _ h => h) (Or.inl ⟨by rfl, ?_⟩) hHeld ?_ ?_
                        rotate_left
                        · rintro w' ⟨s0, s1, s2, s3, s4, s5, s6, s7⟩
                          go_simp
                          with_reducible rfl
                        rotate_left
                        · simp only [Act.put, List.setIfInBounds_toArray, List.set_cons_zero, List.set_cons_succ, i64_w, i32_w]
                          rfl
                        refine pure_ (i := 12) (N := some 123) (v := ?_) (a' := ?_) #[true, true, true, true, true, true, true, true, true, true, true, true, true, true, true, true, true, false, false, true, true, true, true, false, false, true, true, true, true, false, false, true, true, true, true, false, false, true, true, true, true, false, false, false, false, false, false] rfl rfl (by kernel_rfl) (fun _ _ _ h => h) (Or.inl ⟨by rfl, ?_⟩) ?_ ?_
                        rotate_left
                        · intro w'
                          go_simp
                          with_reducible rfl
                        rotate_left
                        · simp only [Act.put, List.setIfInBounds_toArray, List.set_cons_zero, List.set_cons_succ, i64_w, i32_w]
                          rfl
                        refine take_ (i := 17) (N := some 128) (v := ?_) (a' := ?_) #[true, true, true, true, true, true, true, true, true, true, true, true, true, true, true, true, true, true, false, true, true, true, true, false, false, true, true, true, true, false, false, true, true, true, true, false, false, true, true, true, true, false, false, false, false, false, false] rfl rfl (by kernel_rfl) (fun _ _ _ h => h) (Or.inl ⟨by rfl, ?_⟩) hHeld ?_ ?_
                        rotate_left
                        · rintro w' ⟨s0, s1, s2, s3, s4, s5, s6, s7⟩
                          go_simp
                          with_reducible rfl
                        rotate_left
                        · simp only [Act.put, List.setIfInBounds_toArray, List.set_cons_zero, List.set_cons_succ, i64_w, i32_w]
                          rfl
                        refine pure_ (i := 18) (N := some 129) (v := ?_) (a' := ?_) #[true, true, true, true, true, true, true, true, true, true, true, true, true, true, true, true, true, true, true, true, true, true, true, false, false, true, true, true, true, false, false, true, true, true, true, false, false, true, true, true, true, false, false, false, false, false, false] rfl rfl (by kernel_rfl) (fun _ _ _ h => h) (Or.inl ⟨by rfl, ?_⟩) ?_ ?_
                        rotate_left
                        · intro w'
                          go_simp
                          with_reducible rfl
                        rotate_left
                        · simp only [Act.put, List.setIfInBounds_toArray, List.set_cons_zero, List.set_cons_succ, i64_w, i32_w]
                          rfl
                        refine take_ (i := 23) (N := some 134) (v := ?_) (a' := ?_) #[true, true, true, true, true, true, true, true, true, true, true, true, true, true, true, true, true, true, true, true, true, true, true, true, false, true, true, true, true, false, false, true, true, true, true, false, false, true, true, true, true, false, false, false, false, false, false] rfl rfl (by kernel_rfl) (fun _ _ _ h => h) (Or.inl ⟨by rfl, ?_⟩) hHeld ?_ ?_
                        rotate_left
                        · rintro w' ⟨s0, s1, s2, s3, s4, s5, s6, s7⟩
                          go_simp
                          with_reducible rfl
                        rotate_left
                        · simp only [Act.put, List.setIfInBounds_toArray, List.set_cons_zero, List.set_cons_succ, i64_w, i32_w]
                          rfl
                        refine pure_ (i := 24) (N := some 135) (v := ?_) (a' := ?_) #[true, true, true, true, true, true, true, true, true, true, true, true, true, true, true, true, true, true, true, true, true, true, true, true, true, true, true, true, true, false, false, true, true, true, true, false, false, true, true, true, true, false, false, false, false, false, false] rfl rfl (by kernel_rfl) (fun _ _ _ h => h) (Or.inl ⟨by rfl, ?_⟩) ?_ ?_
                        rotate_left
                        · intro w'
                          go_simp
                          with_reducible rfl
                        rotate_left
                        · simp only [Act.put, List.setIfInBounds_toArray, List.set_cons_zero, List.set_cons_succ, i64_w, i32_w]
                          rfl
                        refine take_ (i := 29) (N := some 140) (v := ?_) (a' := ?_) #[true, true, true, true, true, true, true, true, true, true, true, true, true, true, true, true, true, true, true, true, true, true, true, true, true, true, true, true, true, true, false, true, true, true, true, false, false, true, true, true, true, false, false, false, false, false, false] rfl rfl (by kernel_rfl) (fun _ _ _ h => h) (Or.inl ⟨by rfl, ?_⟩) hHeld ?_ ?_
                        rotate_left
                        · rintro w' ⟨s0, s1, s2, s3, s4, s5, s6, s7⟩
                          go_simp
                          with_reducible rfl
                        rotate_left
                        · simp only [Act.put, List.setIfInBounds_toArray, List.set_cons_zero, List.set_cons_succ, i64_w, i32_w]
                          rfl
                        refine pure_ (i := 30) (N := some 141) (v := ?_) (a' := ?_) #[true, true, true, true, true, true, true, true, true, true, true, true, true, true, true, true, true, true, true, true, true, true, true, true, true, true, true, true, true, true, true, true, true, true, true, false, false, true, true, true, true, false, false, false, false, false, false] rfl rfl (by kernel_rfl) (fun _ _ _ h => h) (Or.inl ⟨by rfl, ?_⟩) ?_ ?_
                        rotate_left
                        · intro w'
                          go_simp
                          with_reducible rfl
                        rotate_left
                        · simp only [Act.put, List.setIfInBounds_toArray, List.set_cons_zero, List.set_cons_succ, i64_w, i32_w]
                          rfl
                        refine take_ (i := 35) (N := some 146) (v := ?_) (a' := ?_) #[true, true, true, true, true, true, true, true, true, true, true, true, true, true, true, true, true, true, true, true, true, true, true, true, true, true, true, true, true, true, true, true, true, true, true, true, false, true, true, true, true, false, false, false, false, false, false] rfl rfl (by kernel_rfl) (fun _ _ _ h => h) (Or.inl ⟨by rfl, ?_⟩) hHeld ?_ ?_
                        rotate_left
                        · rintro w' ⟨s0, s1, s2, s3, s4, s5, s6, s7⟩
                          go_simp
                          with_reducible rfl
                        rotate_left
                        · simp only [Act.put, List.setIfInBounds_toArray, List.set_cons_zero, List.set_cons_succ, i64_w, i32_w]
                          rfl
                        refine pure_ (i := 36) (N := some 147) (v := ?_) (a' := ?_) #[true, true, true, true, true, true, true, true, true, true, true, true, true, true, true, true, true, true, true, true, true, true, true, true, true, true, true, true, true, true, true, true, true, true, true, true, true, true, true, true, true, false, false, false, false, false, false] rfl rfl (by kernel_rfl) (fun _ _ _ h => h) (Or.inl ⟨by rfl, ?_⟩) ?_ ?_
                        rotate_left
                        · intro w'
                          go_simp
                          with_reducible rfl
                        rotate_left
                        · simp only [Act.put, List.setIfInBounds_toArray, List.set_cons_zero, List.set_cons_succ, i64_w, i32_w]
                          rfl
                        refine take_ (i := 41) (N := some 152) (v := ?_) (a' := ?_) #[true, true, true, true, true, true, true, true, true, true, true, true, true, true, true, true, true, true, true, true, true, true, true, true, true, true, true, true, true, true, true, true, true, true, true, true, true, true, true, true, true, true, false, false, false, false, false] rfl rfl (by kernel_rfl) (fun _ _ _ h => h) (Or.inl ⟨by rfl, ?_⟩) hHeld ?_ ?_
                        rotate_left
                        · rintro w' ⟨s0, s1, s2, s3, s4, s5, s6, s7⟩
                          go_simp
                          with_reducible rfl
                        rotate_left
                        · simp only [Act.put, List.setIfInBounds_toArray, List.set_cons_zero, List.set_cons_succ, i64_w, i32_w]
                          rfl
                        refine pure_ (i := 42) (N := some 153) (v := ?_) (a' := ?_) #[true, true, true, true, true, true, true, true, true, true, true, true, true, true, true, true, true, true, true, true, true, true, true, true, true, true, true, true, true, true, true, true, true, true, true, true, true, true, true, true, true, true, true, false, false, false, false] rfl rfl (by kernel_rfl) (fun _ _ _ h => h) (Or.inl ⟨by rfl, ?_⟩) ?_ ?_
                        rotate_left
                        · intro w'
                          go_simp
                          with_reducible rfl
                        rotate_left
                        · simp only [Act.put, List.setIfInBounds_toArray, List.set_cons_zero, List.set_cons_succ, i64_w, i32_w]
                          rfl
                        refine one_ (i := 43) (N := some 154) #[true, true, true, true, true, true, true, true, true, true, true, true, true, true, true, true, true, true, true, true, true, true, true, true, true, true, true, true, true, true, true, true, true, true, true, true, true, true, true, true, true, true, true, true, false, false, false] rfl rfl (by kernel_rfl) (by decide) (fun K hK => ?_)
                        refine value_ (w1 := ?_) (v := ?_) (by rfl) rfl ?_ ?_
                        rotate_left 2
                        · go_simp
                          constructor
                          · rfl
                          · rfl
                        refine hK.out _ _ ⟨(HXd.out.alloc _).c1, pw_cell_below (HXd.out.alloc _).bel HYw0.out, pw_cell_below (HXd.out.alloc _).bel HYw1.out, pw_cell_below (HXd.out.alloc _).bel HYw2.out, pw_cell_below (HXd.out.alloc _).bel HYw3.out, pw_cell_below (HXd.out.alloc _).bel HYw4.out, pw_cell_below (HXd.out.alloc _).bel HYw5.out, pw_cell_below (HXd.out.alloc _).bel HYw6.out⟩ (fun hHeld => ?_)
                        clear hK K
                        refine norm_ (a' := ?_) ?_ ?_
                        rotate_left
                        · show Act.put _ (some 154) _ = _
                          simp only [Act.put, List.setIfInBounds_toArray, List.set_cons_zero, List.set_cons_succ, i64_w, i32_w]
                          rfl
                        refine one_ (i := 44) (N := some 155) #[true, true, true, true, true, true, true, true, true, true, true, true, true, true, true, true, true, true, true, true, true, true, true, true, true, true, true, true, true, true, true, true, true, true, true, true, true, true, true, true, true, true, true, true, true, false, false] rfl rfl (by kernel_rfl) (by decide) (fun K hK => ?_)
                        refine Kd.R_append_step k68 (w0 := wd) (w.heap.size + 3) (by rfl) (.tmp 112) (.tmp 154) 25 68 (.agg #[(.int .i64 0), (.int .i64 0), (.int .i64 0), (.int .i64 0), (.int .i64 0), (.int .i64 0), (.int .u32 0)]) 56 rfl Try.underlying25 info_68 rfl (by decide) (by omega) _ (chans ((ws.drop 6).drop (2 * p)) i) (⟨y0, y1, y2, y3, y4, y5, y6⟩ : S68) [.int .i64 y0, .int .i64 y1, .int .i64 y2, .int .i64 y3, .int .i64 y4, .int .i64 y5, .int .u32 y6] (fun j => w.heap.size + 3 ≤ j) (fun _ => False) rfl rfl ?bP (fun _ h => h.elim) ?bF ?bO ?bB ?bS ?bL ?_
                        (case bP => exact k68_mkM _ _ _ (⟨y0, y1, y2, y3, y4, y5, y6⟩ : S68))
                        (case bF => exact fun k hk => by have := HXd.out.size; omega)
                        (case bO => exact HRd.out)
                        (case bB => exact Below.refl _ _)
                        (case bS => exact HXd.out.size)
                        (case bL => rw [chans_length]; omega)
                        intro v1 w6 ho hb hg hat
                        obtain ⟨A6, n6, c6, rfl⟩ : ∃ A n c, v1 = .slice A n c := by obtain ⟨A, c, h⟩ := Kd.R_slice ho; exact ⟨A, _, c, h⟩
                        have HX6 := Aside0.mk (HXd.out.to hb (Nat.le_refl _))
                        have HO6 : Aside0 (Kd.R k68 68 w6 (w.heap.size + 3) (fun j => w.heap.size + 3 ≤ j) (.slice A6 n6 c6) (chans ((ws.drop 6).drop (2 * p)) (i + 1))) := ⟨by rw [chans_succ]; have h := ho; rw [HY0.out, HY1.out, HY2.out, HY3.out, HY4.out, HY5.out, HY6.out] at h; exact h⟩
                        have HRp6 := Aside0.mk (R_by HRpd.out HRd.out (by decide) hg)
                        clear ho hb hg hat
                        refine hK.out _ _ ⟨HX6.out.c1, pw_cell_below HX6.out.bel HYw0.out, pw_cell_below HX6.out.bel HYw1.out, pw_cell_below HX6.out.bel HYw2.out, pw_cell_below HX6.out.bel HYw3.out, pw_cell_below HX6.out.bel HYw4.out, pw_cell_below HX6.out.bel HYw5.out, pw_cell_below HX6.out.bel HYw6.out⟩ (fun hHeld => ?_)
                        clear hK K
                        refine norm_ (a' := ?_) ?_ ?_
                        rotate_left
                        · show Act.put _ (some 155) _ = _
                          simp only [Act.put, List.setIfInBounds_toArray, List.set_cons_zero, List.set_cons_succ, i64_w, i32_w]
                          rfl
                        refine pure_ (i := 45) (N := some 156) (v := ?_) (a' := ?_) #[true, true, true, true, true, true, true, true, true, true, true, true, true, true, true, true, true, true, true, true, true, true, true, true, true, true, true, true, true, true, true, true, true, true, true, true, true, true, true, true, true, true, true, true, true, true, false] rfl rfl (by kernel_rfl) (fun _ _ _ h => h) (Or.inl ⟨by rfl, ?_⟩) ?_ ?_
                        rotate_left
                        · intro w'
                          go_simp
                          with_reducible rfl
                        rotate_left
                        · simp only [Act.put, List.setIfInBounds_toArray, List.set_cons_zero, List.set_cons_succ, i64_w, i32_w]
                          rfl
                        refine last_ (i := 46) (N := none) #[true, true, true, true, true, true, true, true, true, true, true, true, true, true, true, true, true, true, true, true, true, true, true, true, true, true, true, true, true, true, true, true, true, true, true, true, true, true, true, true, true, true, true, true, true, true, true] rfl rfl (by kernel_rfl) (by decide) (fun K hK => ?_)
                        have hc6 := HX6.out.c1
                        have hf6 := HX6.out.f1
                        refine skip_ (w1 := ?_) (by rfl) rfl ?_ ?_
                        rotate_left
                        · go_simp
                          rfl
                        refine hK.out _ _ ?_
                        clear hK K
                        refine done_ (by kernel_rfl) ?_
                        have HXn := Aside0.mk (HX6.out.s1 (.slice A6 n6 c6))
                        have HRn := Aside0.mk (R_setx (g := w.heap.size + 2) (i := 1) (u := .slice A6 n6 c6) HO6.out (by omega))
                        have HPn := Aside0.mk (R_setx (g := w.heap.size + 2) (i := 1) (u := .slice A6 n6 c6) HRp6.out (by omega))
                        clear HX6 HO6
                        go_wp2
                        go_roundw
                        case rel => exact ⟨i + 1, .slice A6 n6 c6, by omega, by go_num, HXn, HRn, HPn⟩
                        case measure => simp [intOf]; omega
                      · obtain rfl : q = i := by omega
                        clear hi hlt
                        have hd : decide (q < q) = false := decide_eq_false (by omega)
                        obtain ⟨at0, ha0⟩ : ∃ n, cntW p q 0 0 = n := ⟨_, rfl⟩
                        obtain ⟨at1, ha1⟩ : ∃ n, cntW p q a 0 = n := ⟨_, rfl⟩
                        have hb := HPB.out
                        have hcA := fun W => count_calls p q 0 0 (by omega) (by omega) (by omega) (by omega) W
                        have hcB := fun W => count_calls p q a 0 (by omega) (by omega) (by omega) (by omega) W
                        rw [ha0] at hcA
                        rw [ha1] at hcB
                        have HCA : Aside0 (∀ W, Calls Try.prog 38 #[.int .i64 p, .int .i64 q, .int .i64 0, .int .i64 0] W fun e w' => e = .returned (.int .i64 at0) ∧ Drawn0 W w') := ⟨hcA⟩
                        have HCB : Aside0 (∀ W, Calls Try.prog 38 #[.int .i64 p, .int .i64 q, .int .i64 a, .int .i64 0] W fun e w' => e = .returned (.int .i64 at1) ∧ Drawn0 W w') := ⟨hcB⟩
                        have hNN := HNN.out
                        have hl0 : at0 + 3 * a ≤ ws.length := by rw [HLN.out, ← hNN, ← ha0]; unfold cntW; omega
                        have hl1 : at1 + 3 * b ≤ ws.length := by rw [HLN.out, ← hNN, ← ha1]; unfold cntW; omega
                        have hs0 : at0 ≤ 100000 := by rw [← ha0]; unfold cntW; omega
                        have hs1 : at1 ≤ 100000 := by rw [← ha1]; unfold cntW; omega
                        have hwA := fun (W : World) (hW : Below w.heap.size w W) => windows_refcalls (some ad) c ws HW.out HCC.out at0 a hb.2.2.1 hs0 hl0 W (Kd.C_below HRW.out hW)
                        have hwB := fun (W : World) (hW : Below w.heap.size w W) => windows_refcalls (some ad) c ws HW.out HCC.out at1 b hb.2.2.2 hs1 hl1 W (Kd.C_below HRW.out hW)
                        rw [HLN.out] at hwA hwB
                        have HWA := Aside0.mk hwA
                        have HWB := Aside0.mk hwB
                        have HAT : Aside0 (ws.drop at0 = (ws.drop 6).drop (2 * p + 7 * q) ∧ ws.drop at1 = (ws.drop 6).drop (2 * p + 7 * q + 3 * a)) := ⟨by rw [← ha0, List.drop_drop]; congr 1; unfold cntW; omega, by rw [← ha1, List.drop_drop]; congr 1; unfold cntW; omega⟩
                        have hcv2 : IntKind.i64.wrap l0 = l0 := by rw [i64_w]; unfold wrap64; omega
                        have hcv4 : IntKind.i64.wrap l1 = l1 := by rw [i64_w]; unfold wrap64; omega
                        clear ha0 ha1 hb hcA hcB hNN hl0 hl1 hs0 hs1 hwA hwB
                        have hwc := pw_cell_below HXr.out.bel HW2.out
                        go_wp2_with fail
                        refine start_ (n := 14) (S := fun w' => w'.cell? ⟨ad.block, ad.off + 2, none⟩ = some (.int .u32 l0)) (ds := [13]) #[false, false, false, false, false, false, false, false, false, false, false, false, false, false] (by kernel_rfl) rfl rfl (pw_cell_below HXr.out.drew.bel HW2.out) (fun hHeld => ?_)
                        refine pure_ (i := 0) (N := some 157) (v := ?_) (a' := ?_) #[true, false, false, false, false, false, false, false, false, false, false, false, false, false] rfl rfl (by kernel_rfl) (fun _ _ _ h => h) (Or.inl ⟨by rfl, ?_⟩) ?_ ?_
                        rotate_left
                        · intro w'
                          go_simp
                          with_reducible rfl
                        rotate_left
                        · simp only [Act.put, List.setIfInBounds_toArray, List.set_cons_zero, List.set_cons_succ, i64_w, i32_w]
                          rfl
                        refine pure_ (i := 1) (N := some 158) (v := ?_) (a' := ?_) #[true, true, false, false, false, false, false, false, false, false, false, false, false, false] rfl rfl (by kernel_rfl) (fun _ _ _ h => h) (Or.inl ⟨by rfl, ?_⟩) ?_ ?_
                        rotate_left
                        · intro w'
                          go_simp
                          with_reducible rfl
                        rotate_left
                        · simp only [Act.put, List.setIfInBounds_toArray, List.set_cons_zero, List.set_cons_succ, i64_w, i32_w]
                          rfl
                        refine pure_ (i := 4) (N := some 161) (v := ?_) (a' := ?_) #[true, true, false, false, true, false, false, false, false, false, false, false, false, false] rfl rfl (by kernel_rfl) (fun _ _ _ h => h) (Or.inl ⟨by rfl, ?_⟩) ?_ ?_
                        rotate_left
                        · intro w'
                          go_simp
                          with_reducible rfl
                        rotate_left
                        · simp only [Act.put, List.setIfInBounds_toArray, List.set_cons_zero, List.set_cons_succ, i64_w, i32_w]
                          rfl
                        refine pure_ (i := 5) (N := some 162) (v := ?_) (a' := ?_) #[true, true, false, false, true, true, false, false, false, false, false, false, false, false] rfl rfl (by kernel_rfl) (fun _ _ _ h => h) (Or.inl ⟨by rfl, ?_⟩) ?_ ?_
                        rotate_left
                        · intro w'
                          go_simp
                          with_reducible rfl
                        rotate_left
                        · simp only [Act.put, List.setIfInBounds_toArray, List.set_cons_zero, List.set_cons_succ, i64_w, i32_w]
                          rfl
                        refine pure_ (i := 6) (N := some 163) (v := ?_) (a' := ?_) #[true, true, false, false, true, true, true, false, false, false, false, false, false, false] rfl rfl (by kernel_rfl) (fun _ _ _ h => h) (Or.inl ⟨by rfl, ?_⟩) ?_ ?_
                        rotate_left
                        · intro w'
                          go_simp
                          with_reducible rfl
                        rotate_left
                        · simp only [Act.put, List.setIfInBounds_toArray, List.set_cons_zero, List.set_cons_succ, i64_w, i32_w]
                          rfl
                        refine pure_ (i := 8) (N := some 165) (v := ?_) (a' := ?_) #[true, true, false, false, true, true, true, false, true, false, false, false, false, false] rfl rfl (by kernel_rfl) (fun _ _ _ h => h) (Or.inl ⟨by rfl, ?_⟩) ?_ ?_
                        rotate_left
                        · intro w'
                          go_simp
                          with_reducible rfl
                        rotate_left
                        · simp only [Act.put, List.setIfInBounds_toArray, List.set_cons_zero, List.set_cons_succ, i64_w, i32_w]
                          rfl
                        refine pure_ (i := 11) (N := some 168) (v := ?_) (a' := ?_) #[true, true, false, false, true, true, true, false, true, false, false, true, false, false] rfl rfl (by kernel_rfl) (fun _ _ _ h => h) (Or.inl ⟨by rfl, ?_⟩) ?_ ?_
                        rotate_left
                        · intro w'
                          go_simp
                          with_reducible rfl
                        rotate_left
                        · simp only [Act.put, List.setIfInBounds_toArray, List.set_cons_zero, List.set_cons_succ, i64_w, i32_w]
                          rfl
                        refine take_ (i := 2) (N := some 159) (v := ?_) (a' := ?_) #[true, true, true, false, true, true, true, false, true, false, false, true, false, false] rfl rfl (by kernel_rfl) (fun _ _ _ h => h) (Or.inl ⟨by rfl, ?_⟩) hHeld ?_ ?_
                        rotate_left
                        · intro w' s0
                          go_simp
                          with_reducible rfl
                        rotate_left
                        · simp only [Act.put, List.setIfInBounds_toArray, List.set_cons_zero, List.set_cons_succ, i64_w, i32_w]
                          rfl
                        refine pure_ (i := 3) (N := some 160) (v := ?_) (a' := ?_) #[true, true, true, true, true, true, true, false, true, false, false, true, false, false] rfl rfl (by kernel_rfl) (fun _ _ _ h => h) (Or.inl ⟨by rfl, ?_⟩) ?_ ?_
                        rotate_left
                        · intro w'
                          go_simp
                          with_reducible rfl
                        rotate_left
                        · simp only [Act.put, List.setIfInBounds_toArray, List.set_cons_zero, List.set_cons_succ, i64_w, i32_w]
                          rfl
                        refine one_ (i := 7) (N := some 164) #[true, true, true, true, true, true, true, true, true, false, false, true, false, false] rfl rfl (by kernel_rfl) (by decide) (fun K hK => ?_)
                        refine goes_ Try.func38 (by kernel_rfl) rfl #[.int .i64 p, .int .i64 q, .int .i64 0, .int .i64 0] (by rfl) rfl rfl (by simp only [List.map_toArray, List.map_cons, List.map_nil]; rfl) ?_
                        with_reducible refine (HCA.out _).mono ?_
                        rintro e w6 ⟨rfl, hdr⟩
                        refine ⟨_, rfl, ?_⟩
                        have HX6 := Aside0.mk (HXr.out.drew.drawn hdr)
                        obtain ⟨nd, hnd⟩ := hdr.out
                        refine hK.out _ _ (pw_cell_below HX6.out.bel HW2.out) (fun hHeld => ?_)
                        clear hK K
                        refine norm_ (a' := ?_) ?_ ?_
                        rotate_left
                        · show Act.put _ (some 164) _ = _
                          simp only [Act.put, List.setIfInBounds_toArray, List.set_cons_zero, List.set_cons_succ, i64_w, i32_w]
                          rfl
                        refine one_ (i := 9) (N := some 166) #[true, true, true, true, true, true, true, true, true, true, false, true, false, false] rfl rfl (by kernel_rfl) (by decide) (fun K hK => ?_)
                        refine goes_ Try.func39 (by kernel_rfl) rfl #[.slice (some ad) N c, .int .i64 at0, .int .i64 a] (by rfl) rfl rfl (by simp only [List.map_toArray, List.map_cons, List.map_nil]; rfl) ?_
                        with_reducible refine (HWA.out _ HX6.out.bel).mono ?_
                        rintro e w7 ⟨A5, c5, rfl, h1, h2⟩
                        refine ⟨_, rfl, ?_⟩
                        have HX7 := Aside0.mk (HX6.out.to h2 HX6.out.size)
                        have hbb := (pw_below_drewN (below_drew1 (Below.refl wr.heap.size wr)) nd)
                        rw [← hnd] at hbb
                        have HB7 := Aside0.mk (hbb.trans (h2.mono hbb.size))
                        have hsz7 := HX6.out.size
                        have HU := Aside0.mk (Kd.R_mono (Kd.R_lower h1 hsz7) (fun j hj => (Nat.le_trans hsz7 hj : w.heap.size + 3 ≤ j)))
                        clear h1 h2 hbb hnd hdr
                        refine hK.out _ _ (pw_cell_below HX7.out.bel HW2.out) (fun hHeld => ?_)
                        clear hK K
                        refine norm_ (a' := ?_) ?_ ?_
                        rotate_left
                        · show Act.put _ (some 166) _ = _
                          simp only [Act.put, List.setIfInBounds_toArray, List.set_cons_zero, List.set_cons_succ, i64_w, i32_w]
                          rfl
                        refine pure_ (i := 10) (N := some 167) (v := ?_) (a' := ?_) #[true, true, true, true, true, true, true, true, true, true, true, true, false, false] rfl rfl (by kernel_rfl) (fun _ _ _ h => h) (Or.inl ⟨by rfl, ?_⟩) ?_ ?_
                        rotate_left
                        · intro w'
                          go_simp
                          with_reducible rfl
                        rotate_left
                        · simp only [Act.put, List.setIfInBounds_toArray, List.set_cons_zero, List.set_cons_succ, i64_w, i32_w]
                          rfl
                        refine pure_ (i := 12) (N := some 169) (v := ?_) (a' := ?_) #[true, true, true, true, true, true, true, true, true, true, true, true, true, false] rfl rfl (by kernel_rfl) (fun _ _ _ h => h) (Or.inl ⟨by rfl, ?_⟩) ?_ ?_
                        rotate_left
                        · intro w'
                          go_simp
                          with_reducible rfl
                        rotate_left
                        · simp only [Act.put, List.setIfInBounds_toArray, List.set_cons_zero, List.set_cons_succ, i64_w, i32_w]
                          rfl
                        refine last_ (i := 13) (N := none) #[true, true, true, true, true, true, true, true, true, true, true, true, true, true] rfl rfl (by kernel_rfl) (by decide) (fun K hK => ?_)
                        have hc2 := HX7.out.c2
                        have hf2 := HX7.out.f2
                        have hc3 := HX7.out.c3
                        have hf3 := HX7.out.f3
                        refine skip_ (w1 := ?_) (by rfl) rfl ?_ ?_
                        rotate_left
                        · go_simp
                          rfl
                        refine hK.out _ _ ?_
                        clear hK K
                        refine done_ (by kernel_rfl) ?_
                        have HX8 := Aside0.mk ((HX7.out.s2 (.int .i64 l0)).s3 (.slice A5 a c5))
                        have HP8 := Aside0.mk (R_setx (g := w.heap.size + 2) (i := 3) (u := .slice A5 a c5) (R_setx (g := w.heap.size + 2) (i := 2) (u := .int .i64 l0) (Kd.R_below HRp.out HB7.out) (by omega)) (by omega))
                        have HC8 := Aside0.mk (R_setx (g := w.heap.size + 2) (i := 3) (u := .slice A5 a c5) (R_setx (g := w.heap.size + 2) (i := 2) (u := .int .i64 l0) (Kd.R_below HRr.out HB7.out) (by omega)) (by omega))
                        have HU8 := Aside0.mk (R_setx (g := w.heap.size + 2) (i := 3) (u := .slice A5 a c5) (R_setx (g := w.heap.size + 2) (i := 2) (u := .int .i64 l0) HU.out (by omega)) (by omega))
                        clear HX6 HX7 HU HB7 hc2 hc3 hf2 hf3 hwc HXr HRr HRp hsz7
                        generalize (w7.setCell ⟨w.heap.size + 2, 2, none⟩ (.int .i64 l0)).setCell ⟨w.heap.size + 2, 3, none⟩ (.slice A5 a c5) = w8 at *
                        have hwc := pw_cell_below HX8.out.bel HW4.out
                        go_wp2_with fail
                        refine start_ (n := 15) (S := fun w' => w'.cell? ⟨ad.block, ad.off + 4, none⟩ = some (.int .u32 l1)) (ds := [14]) #[false, false, false, false, false, false, false, false, false, false, false, false, false, false, false] (by kernel_rfl) rfl rfl (pw_cell_below HX8.out.drew.bel HW4.out) (fun hHeld => ?_)
                        refine pure_ (i := 0) (N := some 170) (v := ?_) (a' := ?_) #[true, false, false, false, false, false, false, false, false, false, false, false, false, false, false] rfl rfl (by kernel_rfl) (fun _ _ _ h => h) (Or.inl ⟨by rfl, ?_⟩) ?_ ?_
                        rotate_left
                        · intro w'
                          go_simp
                          with_reducible rfl
                        rotate_left
                        · simp only [Act.put, List.setIfInBounds_toArray, List.set_cons_zero, List.set_cons_succ, i64_w, i32_w]
                          rfl
                        refine pure_ (i := 1) (N := some 171) (v := ?_) (a' := ?_) #[true, true, false, false, false, false, false, false, false, false, false, false, false, false, false] rfl rfl (by kernel_rfl) (fun _ _ _ h => h) (Or.inl ⟨by rfl, ?_⟩) ?_ ?_
                        rotate_left
                        · intro w'
                          go_simp
                          with_reducible rfl
                        rotate_left
                        · simp only [Act.put, List.setIfInBounds_toArray, List.set_cons_zero, List.set_cons_succ, i64_w, i32_w]
                          rfl
                        refine pure_ (i := 4) (N := some 174) (v := ?_) (a' := ?_) #[true, true, false, false, true, false, false, false, false, false, false, false, false, false, false] rfl rfl (by kernel_rfl) (fun _ _ _ h => h) (Or.inl ⟨by rfl, ?_⟩) ?_ ?_
                        rotate_left
                        · intro w'
                          go_simp
                          with_reducible rfl
                        rotate_left
                        · simp only [Act.put, List.setIfInBounds_toArray, List.set_cons_zero, List.set_cons_succ, i64_w, i32_w]
                          rfl
                        refine pure_ (i := 5) (N := some 175) (v := ?_) (a' := ?_) #[true, true, false, false, true, true, false, false, false, false, false, false, false, false, false] rfl rfl (by kernel_rfl) (fun _ _ _ h => h) (Or.inl ⟨by rfl, ?_⟩) ?_ ?_
                        rotate_left
                        · intro w'
                          go_simp
                          with_reducible rfl
                        rotate_left
                        · simp only [Act.put, List.setIfInBounds_toArray, List.set_cons_zero, List.set_cons_succ, i64_w, i32_w]
                          rfl
                        refine pure_ (i := 6) (N := some 176) (v := ?_) (a' := ?_) #[true, true, false, false, true, true, true, false, false, false, false, false, false, false, false] rfl rfl (by kernel_rfl) (fun _ _ _ h => h) (Or.inl ⟨by rfl, ?_⟩) ?_ ?_
                        rotate_left
                        · intro w'
                          go_simp
                          with_reducible rfl
                        rotate_left
                        · simp only [Act.put, List.setIfInBounds_toArray, List.set_cons_zero, List.set_cons_succ, i64_w, i32_w]
                          rfl
                        refine pure_ (i := 7) (N := some 177) (v := ?_) (a' := ?_) #[true, true, false, false, true, true, true, true, false, false, false, false, false, false, false] rfl rfl (by kernel_rfl) (fun _ _ _ h => h) (Or.inl ⟨by rfl, ?_⟩) ?_ ?_
                        rotate_left
                        · intro w'
                          go_simp
                          with_reducible rfl
                        rotate_left
                        · simp only [Act.put, List.setIfInBounds_toArray, List.set_cons_zero, List.set_cons_succ, i64_w, i32_w]
                          rfl
                        refine pure_ (i := 9) (N := some 179) (v := ?_) (a' := ?_) #[true, true, false, false, true, true, true, true, false, true, false, false, false, false, false] rfl rfl (by kernel_rfl) (fun _ _ _ h => h) (Or.inl ⟨by rfl, ?_⟩) ?_ ?_
                        rotate_left
                        · intro w'
                          go_simp
                          with_reducible rfl
                        rotate_left
                        · simp only [Act.put, List.setIfInBounds_toArray, List.set_cons_zero, List.set_cons_succ, i64_w, i32_w]
                          rfl
                        refine pure_ (i := 12) (N := some 182) (v := ?_) (a' := ?_) #[true, true, false, false, true, true, true, true, false, true, false, false, true, false, false] rfl rfl (by kernel_rfl) (fun _ _ _ h => h) (Or.inl ⟨by rfl, ?_⟩) ?_ ?_
                        rotate_left
                        · intro w'
                          go_simp
                          with_reducible rfl
                        rotate_left
                        · simp only [Act.put, List.setIfInBounds_toArray, List.set_cons_zero, List.set_cons_succ, i64_w, i32_w]
                          rfl
                        refine take_ (i := 2) (N := some 172) (v := ?_) (a' := ?_) #[true, true, true, false, true, true, true, true, false, true, false, false, true, false, false] rfl rfl (by kernel_rfl) (fun _ _ _ h => h) (Or.inl ⟨by rfl, ?_⟩) hHeld ?_ ?_
                        rotate_left
                        · intro w' s0
                          go_simp
                          with_reducible rfl
                        rotate_left
                        · simp only [Act.put, List.setIfInBounds_toArray, List.set_cons_zero, List.set_cons_succ, i64_w, i32_w]
                          rfl
                        refine pure_ (i := 3) (N := some 173) (v := ?_) (a' := ?_) #[true, true, true, true, true, true, true, true, false, true, false, false, true, false, false] rfl rfl (by kernel_rfl) (fun _ _ _ h => h) (Or.inl ⟨by rfl, ?_⟩) ?_ ?_
                        rotate_left
                        · intro w'
                          go_simp
                          with_reducible rfl
                        rotate_left
                        · simp only [Act.put, List.setIfInBounds_toArray, List.set_cons_zero, List.set_cons_succ, i64_w, i32_w]
                          rfl
                        refine one_ (i := 8) (N := some 178) #[true, true, true, true, true, true, true, true, true, true, false, false, true, false, false] rfl rfl (by kernel_rfl) (by decide) (fun K hK => ?_)
                        refine goes_ Try.func38 (by kernel_rfl) rfl #[.int .i64 p, .int .i64 q, .int .i64 a, .int .i64 0] (by rfl) rfl rfl (by simp only [List.map_toArray, List.map_cons, List.map_nil]; rfl) ?_
                        with_reducible refine (HCB.out _).mono ?_
                        rintro e w6 ⟨rfl, hdr⟩
                        refine ⟨_, rfl, ?_⟩
                        have HX6 := Aside0.mk (HX8.out.drew.drawn hdr)
                        obtain ⟨nd, hnd⟩ := hdr.out
                        refine hK.out _ _ (pw_cell_below HX6.out.bel HW4.out) (fun hHeld => ?_)
                        clear hK K
                        refine norm_ (a' := ?_) ?_ ?_
                        rotate_left
                        · show Act.put _ (some 178) _ = _
                          simp only [Act.put, List.setIfInBounds_toArray, List.set_cons_zero, List.set_cons_succ, i64_w, i32_w]
                          rfl
                        refine one_ (i := 10) (N := some 180) #[true, true, true, true, true, true, true, true, true, true, true, false, true, false, false] rfl rfl (by kernel_rfl) (by decide) (fun K hK => ?_)
                        refine goes_ Try.func39 (by kernel_rfl) rfl #[.slice (some ad) N c, .int .i64 at1, .int .i64 b] (by rfl) rfl rfl (by simp only [List.map_toArray, List.map_cons, List.map_nil]; rfl) ?_
                        with_reducible refine (HWB.out _ HX6.out.bel).mono ?_
                        rintro e w7 ⟨A7, c7, rfl, h1, h2⟩
                        refine ⟨_, rfl, ?_⟩
                        have HX7 := Aside0.mk (HX6.out.to h2 HX6.out.size)
                        have hbb := (pw_below_drewN (below_drew1 (Below.refl w8.heap.size w8)) nd)
                        rw [← hnd] at hbb
                        have HB7 := Aside0.mk (hbb.trans (h2.mono hbb.size))
                        have hsz7 := HX6.out.size
                        have HU := Aside0.mk (Kd.R_mono (Kd.R_lower h1 hsz7) (fun j hj => (Nat.le_trans hsz7 hj : w.heap.size + 3 ≤ j)))
                        clear h1 h2 hbb hnd hdr
                        refine hK.out _ _ (pw_cell_below HX7.out.bel HW4.out) (fun hHeld => ?_)
                        clear hK K
                        refine norm_ (a' := ?_) ?_ ?_
                        rotate_left
                        · show Act.put _ (some 180) _ = _
                          simp only [Act.put, List.setIfInBounds_toArray, List.set_cons_zero, List.set_cons_succ, i64_w, i32_w]
                          rfl
                        refine pure_ (i := 11) (N := some 181) (v := ?_) (a' := ?_) #[true, true, true, true, true, true, true, true, true, true, true, true, true, false, false] rfl rfl (by kernel_rfl) (fun _ _ _ h => h) (Or.inl ⟨by rfl, ?_⟩) ?_ ?_
                        rotate_left
                        · intro w'
                          go_simp
                          with_reducible rfl
                        rotate_left
                        · simp only [Act.put, List.setIfInBounds_toArray, List.set_cons_zero, List.set_cons_succ, i64_w, i32_w]
                          rfl
                        refine pure_ (i := 13) (N := some 183) (v := ?_) (a' := ?_) #[true, true, true, true, true, true, true, true, true, true, true, true, true, true, false] rfl rfl (by kernel_rfl) (fun _ _ _ h => h) (Or.inl ⟨by rfl, ?_⟩) ?_ ?_
                        rotate_left
                        · intro w'
                          go_simp
                          with_reducible rfl
                        rotate_left
                        · simp only [Act.put, List.setIfInBounds_toArray, List.set_cons_zero, List.set_cons_succ, i64_w, i32_w]
                          rfl
                        refine last_ (i := 14) (N := none) #[true, true, true, true, true, true, true, true, true, true, true, true, true, true, true] rfl rfl (by kernel_rfl) (by decide) (fun K hK => ?_)
                        have hc2 := HX7.out.c4
                        have hf2 := HX7.out.f4
                        have hc3 := HX7.out.c5
                        have hf3 := HX7.out.f5
                        refine skip_ (w1 := ?_) (by rfl) rfl ?_ ?_
                        rotate_left
                        · go_simp
                          rfl
                        refine hK.out _ _ ?_
                        clear hK K
                        refine done_ (by kernel_rfl) ?_
                        have HX9 := Aside0.mk ((HX7.out.s4 (.int .i64 l1)).s5 (.slice A7 b c7))
                        have HP9 := Aside0.mk (R_setx (g := w.heap.size + 2) (i := 5) (u := .slice A7 b c7) (R_setx (g := w.heap.size + 2) (i := 4) (u := .int .i64 l1) (Kd.R_below HP8.out HB7.out) (by omega)) (by omega))
                        have HC9 := Aside0.mk (R_setx (g := w.heap.size + 2) (i := 5) (u := .slice A7 b c7) (R_setx (g := w.heap.size + 2) (i := 4) (u := .int .i64 l1) (Kd.R_below HC8.out HB7.out) (by omega)) (by omega))
                        have HV9 := Aside0.mk (R_setx (g := w.heap.size + 2) (i := 5) (u := .slice A7 b c7) (R_setx (g := w.heap.size + 2) (i := 4) (u := .int .i64 l1) (Kd.R_below HU8.out HB7.out) (by omega)) (by omega))
                        have HU9 := Aside0.mk (R_setx (g := w.heap.size + 2) (i := 5) (u := .slice A7 b c7) (R_setx (g := w.heap.size + 2) (i := 4) (u := .int .i64 l1) HU.out (by omega)) (by omega))
                        clear HX6 HX7 HU HB7 hc2 hc3 hf2 hf3 hwc HX8 HP8 HC8 HU8 hsz7
                        generalize (w7.setCell ⟨w.heap.size + 2, 4, none⟩ (.int .i64 l1)).setCell ⟨w.heap.size + 2, 5, none⟩ (.slice A7 b c7) = w9 at *
                        have hq0 := HX9.out.c0
                        have hq1 := HX9.out.c1
                        have hq2 := HX9.out.c2
                        have hq3 := HX9.out.c3
                        have hq4 := HX9.out.c4
                        have hq5 := HX9.out.c5
                        have hz0 := (blk_cell HX9.out.res 0).trans rfl
                        have hf0 := blk_frozen HX9.out.res 0
                        have hz1 := (blk_cell HX9.out.res 1).trans rfl
                        have hf1 := blk_frozen HX9.out.res 1
                        have hz2 := (blk_cell HX9.out.res 2).trans rfl
                        have hf2 := blk_frozen HX9.out.res 2
                        have hz3 := (blk_cell HX9.out.res 3).trans rfl
                        have hf3 := blk_frozen HX9.out.res 3
                        have hz4 := (blk_cell HX9.out.res 4).trans rfl
                        have hf4 := blk_frozen HX9.out.res 4
                        have hz5 := (blk_cell HX9.out.res 5).trans rfl
                        have hf5 := blk_frozen HX9.out.res 5
                        go_wp2
                        have hfin := put6 HX9.out.res (.slice A0v l0v c0v) (.slice Aw lw cw) (.int .i64 l0) (.slice A5 a c5) (.int .i64 l1) (.slice A7 b c7)
                        have hbf := below6 HX9.out.bel (Nat.le_refl _) (.slice A0v l0v c0v) (.slice Aw lw cw) (.int .i64 l0) (.slice A5 a c5) (.int .i64 l1) (.slice A7 b c7)
                        generalize hWF : (((((w9.setCell ⟨w.heap.size, 0, none⟩ _).setCell _ _).setCell _ _).setCell _ _).setCell _ _).setCell _ _ = wz at *
                        have hz0 := (blk_cell hfin 0).trans rfl
                        have hz1 := (blk_cell hfin 1).trans rfl
                        have hz2 := (blk_cell hfin 2).trans rfl
                        have hz3 := (blk_cell hfin 3).trans rfl
                        have hz4 := (blk_cell hfin 4).trans rfl
                        have hz5 := (blk_cell hfin 5).trans rfl
                        (try simp only [Exit.inBlock, Exit.then])
                        refine bodyPost_ret (by simp [results, Try.results15, go_sem, hz0, hz1, hz2, hz3, hz4, hz5]; try rfl) rfl ?_
                        have hst : ∀ j, j ≠ w.heap.size → wz.heap[j]? = w9.heap[j]? := fun j hj => by rw [← hWF]; exact heap6 hj
                        have hx := R_toOwn (Kd.R_step HP9.out (w1 := wz) (fun j hj _ => hst j (by omega))) (b' := w.heap.size) (by omega)
                        have hy := R_toOwn (Kd.R_step HC9.out (w1 := wz) (fun j hj _ => hst j (by omega))) (b' := w.heap.size) (by omega)
                        have hz := R_toOwn (Kd.R_step HV9.out (w1 := wz) (fun j hj _ => hst j (by omega))) (b' := w.heap.size) (by omega)
                        have hu := R_toOwn (Kd.R_step HU9.out (w1 := wz) (fun j hj _ => hst j (by omega))) (b' := w.heap.size) (by omega)
                        rw [HAT.out.1] at hz
                        rw [HAT.out.2] at hu
                        refine ⟨_, by rw [HE.out]; try rfl, ?_, hbf⟩
                        rw [HRR.out, parseC, HPQ.out.1, HPQ.out.2.1, HPQ.out.2.2.1, HPQ.out.2.2.2.1, HPQ.out.2.2.2.2.1, HPQ.out.2.2.2.2.2]
                        exact ⟨_, _, _, _, rfl, hx, hy, hz, hu⟩
end Go.Proofs.Ytbpmmabdjabfcaa.Table
