import Derived.Test.YtbpmmabdjabfcaaTablePut
import Derived.Test.YtbpmmabdjabfcaaTableNums
import Derived.Test.YtbpmmabdjabfcaaConcatWin
/- Package table: Print, in plain words. Written by wip/tableprint.py. -/
namespace Go.Proofs.Ytbpmmabdjabfcaa.Table
open Go.RowKit Go.Proofs.YtbpmmabdjabfcaaW.PrintWords Go.Proofs.YtbpmmabdjabfcaaW.PrintLast Go.Proofs.YtbpmmabdjabfcaaW.PrintMore Go.Proofs.Ytbpmmabdjabfcaa.Box Go.Proofs.Ytbpmmabdjabfcaa.PT
set_option linter.unusedSimpArgs false
set_option linter.unusedVariables false
attribute [local go_sem] max2_nat max_four
theorem badL_app (a b : List Int) : (badL a || b.any (fun n => !fitB n)) = badL (a ++ b) := by simp [badL]
theorem map_app (a b : List Int) : a.map wd ++ b.map wd = (a ++ b).map wd := by simp
theorem R_kp {β : Type} {d : Kd β} {e b : Nat} {ok : Nat → Prop} {W W' : World} {g base : Nat} {v : Value} {xs : List β} {cs : Array Value} (h : Kd.R d e W b ok v xs) (hk : KP W W' g base) (hg : W.heap[g]? = some (.cells cs 83 (0, 0))) (h1 : ∀ q, q ∈ e :: d.E → q ≠ 83) (h2 : ∀ q, q ∈ e :: d.E → q ≠ 43) : Kd.R d e W' b ok v xs :=
  Kd.R_mono (Kd.R_move (Kd.R_bound h) (fun k hk' => by
    obtain ⟨_, _, hlt, q, hq, cells, hc⟩ := hk'
    refine hk.typ k ?_ hlt ?_
    · rintro rfl
      rw [hc] at hg
      injection hg with hg
      injection hg with _ hg
      exact h1 q hq hg
    · intro cs' hcs
      rw [hc] at hcs
      injection hcs with hcs
      injection hcs with _ hcs
      exact h2 q hq hcs)) (fun _ h => h.1)
theorem two_slices {W : World} {h T : Nat} {A2 A3 : Option Addr} {c2 c3 : Nat} {x2 x3 : List S72} (hb : W.heap[h]? = some (.cells #[.slice A2 x2.length c2, .slice A3 x3.length c3] T (0, 0))) (h2 : Kd.C k72 W A2 x2.length x2) (h3 : Kd.C k72 W A3 x3.length x3) (l2 : x2.length ≤ c2) (l3 : x3.length ≤ c3) :
    Kd.C (Kd.slice 72 k72) W (some ⟨h, 0, none⟩) [x2, x3].length [x2, x3] := by
  refine ⟨rfl, by simp, fun _ => ⟨⟨h, 0, none⟩, rfl, fun j y hy => ?_⟩⟩
  match j, hy with
  | 0, hy =>
    obtain rfl : x2 = y := by simpa using hy
    refine ⟨[.slice A2 x2.length c2], rfl, ⟨A2, c2, rfl, l2, h2⟩, fun i u hu => ?_⟩
    cases i with
    | zero => simp at hu; subst hu; exact (blk_cell hb 0).trans rfl
    | succ i => simp at hu
  | 1, hy =>
    obtain rfl : x3 = y := by simpa using hy
    refine ⟨[.slice A3 x3.length c3], rfl, ⟨A3, c3, rfl, l3, h3⟩, fun i u hu => ?_⟩
    cases i with
    | zero => simp at hu; subst hu; exact (blk_cell hb 1).trans rfl
    | succ i => simp at hu
  | j + 2, hy => simp at hy
theorem WR.below {W W' : World} {g base : Nat} {ws : List Int} {bad : Bool} (h : WR W g base ws bad) (hb : Below W.heap.size W W') : WR W' g base ws bad := by
  obtain ⟨v, hv, hR⟩ := h.all
  exact ⟨⟨v, blk_below hv hb, Kd.R_below hR hb⟩⟩
theorem flat_step64 (p : List S64) {x : Int} (h0 : 0 ≤ x) (h1 : x < p.length) : (p.take (x + 1).toNat).flatMap fP = (p.take x.toNat).flatMap fP ++ fP (rd_T64 p x) := by
  have e : p.take (x + 1).toNat = p.take x.toNat ++ [rd_T64 p x] := by
    unfold rd_T64
    rw [show (x + 1).toNat = x.toNat + 1 by omega, List.take_add_one, List.getD_eq_getElem?_getD, List.getElem?_eq_getElem (by omega)]
    rfl
  rw [e, List.flatMap_append]
  simp
theorem flat_end64 {p : List S64} {n : Nat} (h1 : p.length = n) : (p.take (n : Int).toNat).flatMap fP = p.flatMap fP := by rw [List.take_of_length_le (by omega)]
theorem flat_step68 (p : List S68) {x : Int} (h0 : 0 ≤ x) (h1 : x < p.length) : (p.take (x + 1).toNat).flatMap fX = (p.take x.toNat).flatMap fX ++ fX (rd_T68 p x) := by
  have e : p.take (x + 1).toNat = p.take x.toNat ++ [rd_T68 p x] := by
    unfold rd_T68
    rw [show (x + 1).toNat = x.toNat + 1 by omega, List.take_add_one, List.getD_eq_getElem?_getD, List.getElem?_eq_getElem (by omega)]
    rfl
  rw [e, List.flatMap_append]
  simp
theorem flat_end68 {p : List S68} {n : Nat} (h1 : p.length = n) : (p.take (n : Int).toNat).flatMap fX = p.flatMap fX := by rw [List.take_of_length_le (by omega)]
theorem flat_step72 (p : List S72) {x : Int} (h0 : 0 ≤ x) (h1 : x < p.length) : (p.take (x + 1).toNat).flatMap fW = (p.take x.toNat).flatMap fW ++ fW (rd_T72 p x) := by
  have e : p.take (x + 1).toNat = p.take x.toNat ++ [rd_T72 p x] := by
    unfold rd_T72
    rw [show (x + 1).toNat = x.toNat + 1 by omega, List.take_add_one, List.getD_eq_getElem?_getD, List.getElem?_eq_getElem (by omega)]
    rfl
  rw [e, List.flatMap_append]
  simp
theorem flat_end72 {p : List S72} {n : Nat} (h1 : p.length = n) : (p.take (n : Int).toNat).flatMap fW = p.flatMap fW := by rw [List.take_of_length_le (by omega)]
set_option maxRecDepth 20000 in
set_option maxHeartbeats 8000000 in
theorem print_calls {w : World} {c : Cfg} {cs : Array Value} (h : IsCfg w c cs) (hx6 : ∀ y ∈ c.xs, 0 ≤ y.f6 ∧ y.f6 ≤ 4294967295) :
    Calls Try.prog 19 #[.agg cs] w fun e w' => ∃ A k, e = .returned (.slice A (printL c).length k) ∧ (printL c).length ≤ k ∧ Kd.C (Kd.int .u32) w' A (printL c).length (printL c) ∧ Below w.heap.size w w' := by
  obtain ⟨A0, c0, A1, c1, A2, c2, A3, c3, rfl, hl, r0, r1, r2, r3⟩ := h
  obtain ⟨pl, hpl⟩ : ∃ l, printL c = l := ⟨_, rfl⟩
  have hpd : pl = if fewB c = true then (if badL (numsL c) = true then [] else (numsL c).map wd) else [] := hpl.symm
  have hnl : numsL c = [(c.ps.length : Int), (c.xs.length : Int), c.l0, (c.ws0.length : Int), c.l1, (c.ws1.length : Int)] ++ c.ps.flatMap fP ++ c.xs.flatMap fX ++ (c.ws0 ++ c.ws1).flatMap fW := rfl
  have hfb : fewB c = (!decide (64 < c.ps.length) && (!decide (64 < c.xs.length) && (!decide (64 < c.ws0.length) && !decide (64 < c.ws1.length)))) := rfl
  rw [hpl]
  clear hpl
  generalize numsL c = NL at *
  generalize fewB c = FB at *
  have HL := Aside0.mk hl
  clear hl
  generalize c.ps = x0 at *
  generalize c.xs = x1 at *
  generalize c.ws0 = x2 at *
  generalize c.ws1 = x3 at *
  generalize c.l0 = l0 at *
  generalize c.l1 = l1 at *
  obtain ⟨n0, hn0⟩ : ∃ n, x0.length = n := ⟨_, rfl⟩
  obtain ⟨n1, hn1⟩ : ∃ n, x1.length = n := ⟨_, rfl⟩
  obtain ⟨n2, hn2⟩ : ∃ n, x2.length = n := ⟨_, rfl⟩
  obtain ⟨n3, hn3⟩ : ∃ n, x3.length = n := ⟨_, rfl⟩
  have hx7 : ∀ x : Int, 0 ≤ x → x < n1 → 0 ≤ (rd_T68 x1 x).f6 ∧ (rd_T68 x1 x).f6 ≤ 4294967295 := fun x h0 h1 => by
    unfold rd_T68
    rw [List.getD_eq_getElem?_getD, List.getElem?_eq_getElem (by omega)]
    exact hx6 _ (List.getElem_mem (by omega))
  have HX6 := Aside0.mk hx7
  clear hx6 hx7
  rw [hn0] at r0
  rw [hn1] at r1
  rw [hn2] at r2
  rw [hn3] at r3
  rw [hn0, hn1, hn2, hn3] at hfb hnl HL
  have hmx : (64 < mx (mx (mx n0 n1) n2) n3) ↔ FB = false := by
    rw [hfb]
    simp only [mx_lt, Bool.and_eq_false_iff, Bool.not_eq_false', decide_eq_true_iff]
    omega
  have HN0 := Aside0.mk hn0
  have HN1 := Aside0.mk hn1
  have HN2 := Aside0.mk hn2
  have HN3 := Aside0.mk hn3
  have HC0 := Aside0.mk r0
  have HC1 := Aside0.mk r1
  have HC2 := Aside0.mk r2
  have HC3 := Aside0.mk r3
  have HPD := Aside0.mk hpd
  have HNL := Aside0.mk hnl
  have HFB := Aside0.mk hfb
  rw [hn0, hn1, hn2, hn3]
  clear hn0 hn1 hn2 hn3 r0 r1 r2 r3 hpd hnl hfb
  have hg0 := blk_alloc (blk_new w (.cells #[.slice A0 n0 c0, .slice A1 n1 c1, .int .i64 l0, .slice A2 n2 c2, .int .i64 l1, .slice A3 n3 c3] 31)) (.cells #[.int .i64 l0, .slice A2 n2 c2, .int .i64 l1, .slice A3 n3 c3] 29)
  have hg1 := blk_new (w.alloc (.cells #[.slice A0 n0 c0, .slice A1 n1 c1, .int .i64 l0, .slice A2 n2 c2, .int .i64 l1, .slice A3 n3 c3] 31)) (.cells #[.int .i64 l0, .slice A2 n2 c2, .int .i64 l1, .slice A3 n3 c3] 29)
  rw [World.size_alloc] at hg1
  have hb1 := below_alloc (below_alloc (Below.refl _ w) (.cells #[.slice A0 n0 c0, .slice A1 n1 c1, .int .i64 l0, .slice A2 n2 c2, .int .i64 l1, .slice A3 n3 c3] 31)) (.cells #[.int .i64 l0, .slice A2 n2 c2, .int .i64 l1, .slice A3 n3 c3] 29)
  have hs1 : ((w.alloc (.cells #[.slice A0 n0 c0, .slice A1 n1 c1, .int .i64 l0, .slice A2 n2 c2, .int .i64 l1, .slice A3 n3 c3] 31)).alloc (.cells #[.int .i64 l0, .slice A2 n2 c2, .int .i64 l1, .slice A3 n3 c3] 29)).heap.size = w.heap.size + 2 := by simp
  have HG0 := Aside0.mk hg0
  have HG1 := Aside0.mk hg1
  have HB1 := Aside0.mk hb1
  have HS1 := Aside0.mk hs1
  clear hg0 hg1 hb1 hs1
  by_cases hm : 64 < mx (mx (mx n0 n1) n2) n3
  · have hd : decide ((64 : Int) < ((mx (mx (mx n0 n1) n2) n3 : Nat) : Int)) = true := decide_eq_true (by omega)
    have HPL : Aside0 (pl = []) := ⟨by rw [HPD.out, hmx.1 hm]; rfl⟩
    clear hm hmx
    go_enter Try.func19, Try.ntmps19
    go_wp2
    go_ret
    exact ⟨none, 0, by rw [HPL.out]; rfl, by rw [HPL.out]; exact Nat.le_refl _, by rw [HPL.out]; exact Kd.C_nil _ _, HB1.out⟩
  · have hd : decide ((64 : Int) < ((mx (mx (mx n0 n1) n2) n3 : Nat) : Int)) = false := decide_eq_false (by omega)
    have hFB : FB = true := by
      cases hF : FB with
      | true => rfl
      | false => exact absurd (hmx.2 hF) hm
    have hs : n0 ≤ 64 ∧ n1 ≤ 64 ∧ n2 ≤ 64 ∧ n3 ≤ 64 := by
      simp only [mx_lt] at hm
      omega
    obtain ⟨hs0, hs1, hs2, hs3⟩ := hs
    have HPL : Aside0 (pl = if badL NL = true then [] else NL.map wd) := ⟨by rw [HPD.out, hFB]; rfl⟩
    clear hm hmx hFB HPD HFB
    go_enter Try.func19, Try.ntmps19
    go_upto_region 2 with fail
    generalize hw2 : (w.alloc (.cells #[.slice A0 n0 c0, .slice A1 n1 c1, .int .i64 l0, .slice A2 n2 c2, .int .i64 l1, .slice A3 n3 c3] 31)).alloc (.cells #[.int .i64 l0, .slice A2 n2 c2, .int .i64 l1, .slice A3 n3 c3] 29) = w2 at *
    clear hw2
    have hz0 := (blk_cell HG0.out 0).trans rfl
    have hz1 := (blk_cell HG0.out 1).trans rfl
    have hy0 := (blk_cell HG1.out 0).trans rfl
    have hy1 := (blk_cell HG1.out 1).trans rfl
    have hy2 := (blk_cell HG1.out 2).trans rfl
    have hy3 := (blk_cell HG1.out 3).trans rfl
    have hsz2 := HS1.out
    go_upto_region 5 with fail
    have hW3 : WR (w2.alloc (.cells #[.slice none 0 0, .bool false] 83)) (w.heap.size + 2) (w.heap.size + 3) [] false := ⟨⟨.slice none 0 0, by have h := blk_new w2 (.cells #[.slice none 0 0, .bool false] 83); rw [hsz2] at h; exact h, Kd.R_nil _ _ _ _ _⟩⟩
    have hs3 : (w2.alloc (.cells #[.slice none 0 0, .bool false] 83)).heap.size = w.heap.size + 3 := by simp [hsz2]
    have hb3 := below_alloc (Below.refl _ w2) (.cells #[.slice none 0 0, .bool false] 83)
    have HG03 := Aside0.mk (blk_below HG0.out hb3)
    have HG13 := Aside0.mk (blk_below HG1.out hb3)
    have HB3 := Aside0.mk (HB1.out.trans (hb3.mono HB1.out.size))
    have HW3 := Aside0.mk hW3
    have HS4 := Aside0.mk hs3
    clear hW3 hs3 hb3 hsz2 HG0 HG1 HB1 HS1 hz0 hz1 hy0 hy1 hy2 hy3 hd
    generalize hw3 : w2.alloc (.cells #[.slice none 0 0, .bool false] 83) = w3 at *
    clear hw3
    have hz0 := (blk_cell HG03.out 0).trans rfl
    have hz1 := (blk_cell HG03.out 1).trans rfl
    have hy0 := (blk_cell HG13.out 0).trans rfl
    have hy1 := (blk_cell HG13.out 1).trans rfl
    have hy2 := (blk_cell HG13.out 2).trans rfl
    have hy3 := (blk_cell HG13.out 3).trans rfl
    have hb4 := below_alloc (Below.refl _ w3) (.cells #[.int .i64 n0, .int .i64 n1, .int .i64 l0, .int .i64 n2, .int .i64 l1, .int .i64 n3] 3)
    have HPT := Aside0.mk (put_calls w (w3.alloc (.cells #[.int .i64 n0, .int .i64 n1, .int .i64 l0, .int .i64 n2, .int .i64 l1, .int .i64 n3] 3)) (w.heap.size + 2) (w.heap.size + 3) w3.heap.size 6 [(n0 : Int), (n1 : Int), l0, (n2 : Int), l1, (n3 : Int)] [] false (HW3.out.below hb4) (by omega) (by omega) (by have := HS4.out; have := hb4.size; omega) (HB3.out.trans (hb4.mono HB3.out.size)) (blk_new w3 (.cells #[.int .i64 n0, .int .i64 n1, .int .i64 l0, .int .i64 n2, .int .i64 l1, .int .i64 n3] 3)) (by simp))
    have HKX := Aside0.mk (KP.of_below (g := (w.heap.size + 2)) (base := (w.heap.size + 3)) hb4)
    clear hb4
    go_wp2_with fail
    refine HPT.out.mono ?_
    rintro e w5 ⟨rfl, h1, h2, h3⟩
    have HW5 : Aside0 (WR w5 (w.heap.size + 2) (w.heap.size + 3) ([(n0 : Int), (n1 : Int), l0, (n2 : Int), l1, (n3 : Int)].map wd) (badL [(n0 : Int), (n1 : Int), l0, (n2 : Int), l1, (n3 : Int)])) := ⟨by have h := h1; rw [Bool.false_or, List.nil_append] at h; exact h⟩
    have HB5 := Aside0.mk h2
    have HK5 := Aside0.mk (HKX.out.trans h3)
    have HLB0 : Aside0 ((([(n0 : Int), (n1 : Int), l0, (n2 : Int), l1, (n3 : Int)] : List Int).length : Int) ≤ 6) := ⟨by simp⟩
    clear h1 h2 h3 HPT HKX hz0 hz1 hy0 hy1 hy2 hy3 HB3 HW3
    have hz0 := (blk_cell ((HK5.out.keep w.heap.size (by omega) (by omega) (by have := HS4.out; omega)).trans HG03.out) 0).trans rfl
    go_wp2_with fail
    go_loopw [57] (fun v wr => ∃ (x : Int) (L : List Int), 0 ≤ x ∧ x ≤ n0 ∧ v = .int .i64 x ∧ Aside0 (L = [(n0 : Int), (n1 : Int), l0, (n2 : Int), l1, (n3 : Int)] ++ (x0.take x.toNat).flatMap fP) ∧ Aside0 ((L.length : Int) ≤ 6 + 2 * x) ∧ Aside0 (WR wr (w.heap.size + 2) (w.heap.size + 3) (L.map wd) (badL L)) ∧ Aside0 (Below w.heap.size w wr) ∧ Aside0 (KP w3 wr (w.heap.size + 2) (w.heap.size + 3))) (fun v _ => n0 - (intOf v).toNat)
    case atStart => exact ⟨0, [(n0 : Int), (n1 : Int), l0, (n2 : Int), l1, (n3 : Int)], by omega, by omega, rfl, ⟨by simp⟩, ⟨by have := HLB0.out; omega⟩, HW5, HB5, HK5⟩
    case round =>
      obtain ⟨x, L, hx0, hx1, rfl, HLD, HLB, HW, HB, HK⟩ := hrel
      by_cases hlt : x < n0
      · have hd : decide (x < (n0 : Int)) = true := decide_eq_true hlt
        obtain ⟨ad, e1, he0, he1⟩ := at_T64 (Kd.C_below HC0.out HB.out) x hx0 hlt
        cases e1
        have hst := flat_step64 x0 hx0 (by rw [HN0.out]; exact hlt)
        generalize rd_T64 x0 x = y at *
        rw [show fP y = [y.f0, y.f1] from rfl] at hst
        generalize y.f0 = y0 at *
        generalize y.f1 = y1 at *
        have HST := Aside0.mk hst
        clear hst
        have p0 := eq_true hx0
        have p1 := eq_true hlt
        have hs1 : (wr.alloc (.cells #[.int .i64 y0, .int .i64 y1] 64)).heap.size = wr.heap.size + 1 := by simp
        have hb1 := below_alloc (Below.refl _ wr) (.cells #[.int .i64 y0, .int .i64 y1] 64)
        have hb2 := below_alloc (Below.refl _ (wr.alloc (.cells #[.int .i64 y0, .int .i64 y1] 64))) (.cells #[.int .i64 y0, .int .i64 y1] 3)
        have hb3 := hb1.trans (hb2.mono (by omega))
        have hh := blk_new (wr.alloc (.cells #[.int .i64 y0, .int .i64 y1] 64)) (.cells #[.int .i64 y0, .int .i64 y1] 3)
        rw [hs1] at hh
        have HPT := Aside0.mk (put_calls w ((wr.alloc (.cells #[.int .i64 y0, .int .i64 y1] 64)).alloc (.cells #[.int .i64 y0, .int .i64 y1] 3)) (w.heap.size + 2) (w.heap.size + 3) (wr.heap.size + 1) 2 [y0, y1] (L.map wd) (badL L) (HW.out.below hb3) (by omega) (by omega) (by have := HK.out.size; have := HS4.out; have := hb3.size; omega) (HB.out.trans (hb3.mono HB.out.size)) hh (by simp; have := HLB.out; omega))
        have HKX := Aside0.mk (HK.out.trans (KP.of_below hb3))
        have HB3 := Aside0.mk hb3
        clear hs1 hb1 hb2 hb3 hh
        go_wp2_with fail
        refine HPT.out.mono ?_
        rintro e w7 ⟨rfl, h1, h2, h3⟩
        rw [map_app, badL_app] at h1
        have HW7 := Aside0.mk h1
        have HB7 := Aside0.mk h2
        have HK7 := Aside0.mk (HKX.out.trans h3)
        have HL7 : Aside0 (L ++ [y0, y1] = [(n0 : Int), (n1 : Int), l0, (n2 : Int), l1, (n3 : Int)] ++ (x0.take (x + 1).toNat).flatMap fP) := ⟨by rw [HLD.out, HST.out, List.append_assoc]⟩
        have HLB7 : Aside0 (((L ++ [y0, y1]).length : Int) ≤ 6 + 2 * (x + 1)) := ⟨by rw [List.length_append]; simp; have := HLB.out; omega⟩
        clear h1 h2 h3 HPT HKX HB3
        go_wp2
        go_roundw
        case rel => exact ⟨x + 1, L ++ [y0, y1], by omega, by omega, by go_num, HL7, HLB7, HW7, HB7, HK7⟩
        case measure => simp [intOf]; omega
      · obtain rfl : x = (n0 : Int) := by omega
        have hd : decide ((n0 : Int) < (n0 : Int)) = false := decide_eq_false (by omega)
        have hfe := HLD.out
        rw [flat_end64 HN0.out] at hfe
        have HLD2 := Aside0.mk hfe
        clear hfe HLD hx0 hx1 hlt
        obtain rfl := HLD2.out
        have HLB0 := Aside0.mk HLB.out
        have HW5b := HW
        have HB5b := HB
        have HK5b := HK
        clear HLB HW HB HK HLD2 hz0
        have hz1 := (blk_cell ((HK5b.out.keep w.heap.size (by omega) (by omega) (by have := HS4.out; omega)).trans HG03.out) 1).trans rfl
        go_wp2_with fail
        clear hd
        go_loopw [72] (fun v wr => ∃ (x : Int) (L : List Int), 0 ≤ x ∧ x ≤ n1 ∧ v = .int .i64 x ∧ Aside0 (L = ([(n0 : Int), (n1 : Int), l0, (n2 : Int), l1, (n3 : Int)] ++ x0.flatMap fP) ++ (x1.take x.toNat).flatMap fX) ∧ Aside0 ((L.length : Int) ≤ (6 + 2 * (n0 : Int)) + 7 * x) ∧ Aside0 (WR wr (w.heap.size + 2) (w.heap.size + 3) (L.map wd) (badL L)) ∧ Aside0 (Below w.heap.size w wr) ∧ Aside0 (KP w3 wr (w.heap.size + 2) (w.heap.size + 3))) (fun v _ => n1 - (intOf v).toNat)
        case atStart => exact ⟨0, ([(n0 : Int), (n1 : Int), l0, (n2 : Int), l1, (n3 : Int)] ++ x0.flatMap fP), by omega, by omega, rfl, ⟨by simp⟩, ⟨by have := HLB0.out; omega⟩, HW5b, HB5b, HK5b⟩
        case round =>
          obtain ⟨x, L, hx0, hx1, rfl, HLD, HLB, HW, HB, HK⟩ := hrel
          by_cases hlt : x < n1
          · have hd : decide (x < (n1 : Int)) = true := decide_eq_true hlt
            obtain ⟨ad, e1, he0, he1, he2, he3, he4, he5, he6⟩ := at_T68 (Kd.C_below HC1.out HB.out) x hx0 hlt
            cases e1
            have hst := flat_step68 x1 hx0 (by rw [HN1.out]; exact hlt)
            have hby := HX6.out x hx0 hlt
            generalize rd_T68 x1 x = y at *
            rw [show fX y = [y.f0, y.f1, y.f2, y.f3, y.f4, y.f5, y.f6] from rfl] at hst
            generalize y.f0 = y0 at *
            generalize y.f1 = y1 at *
            generalize y.f2 = y2 at *
            generalize y.f3 = y3 at *
            generalize y.f4 = y4 at *
            generalize y.f5 = y5 at *
            generalize y.f6 = y6 at *
            have HST := Aside0.mk hst
            clear hst
            have hcv : IntKind.i64.wrap y6 = y6 := by rw [i64_w]; unfold wrap64; omega
            have p0 := eq_true hx0
            have p1 := eq_true hlt
            have hs1 : (wr.alloc (.cells #[.int .i64 y0, .int .i64 y1, .int .i64 y2, .int .i64 y3, .int .i64 y4, .int .i64 y5, .int .u32 y6] 68)).heap.size = wr.heap.size + 1 := by simp
            have hb1 := below_alloc (Below.refl _ wr) (.cells #[.int .i64 y0, .int .i64 y1, .int .i64 y2, .int .i64 y3, .int .i64 y4, .int .i64 y5, .int .u32 y6] 68)
            have hb2 := below_alloc (Below.refl _ (wr.alloc (.cells #[.int .i64 y0, .int .i64 y1, .int .i64 y2, .int .i64 y3, .int .i64 y4, .int .i64 y5, .int .u32 y6] 68))) (.cells #[.int .i64 y0, .int .i64 y1, .int .i64 y2, .int .i64 y3, .int .i64 y4, .int .i64 y5, .int .i64 y6] 3)
            have hb3 := hb1.trans (hb2.mono (by omega))
            have hh := blk_new (wr.alloc (.cells #[.int .i64 y0, .int .i64 y1, .int .i64 y2, .int .i64 y3, .int .i64 y4, .int .i64 y5, .int .u32 y6] 68)) (.cells #[.int .i64 y0, .int .i64 y1, .int .i64 y2, .int .i64 y3, .int .i64 y4, .int .i64 y5, .int .i64 y6] 3)
            rw [hs1] at hh
            have HPT := Aside0.mk (put_calls w ((wr.alloc (.cells #[.int .i64 y0, .int .i64 y1, .int .i64 y2, .int .i64 y3, .int .i64 y4, .int .i64 y5, .int .u32 y6] 68)).alloc (.cells #[.int .i64 y0, .int .i64 y1, .int .i64 y2, .int .i64 y3, .int .i64 y4, .int .i64 y5, .int .i64 y6] 3)) (w.heap.size + 2) (w.heap.size + 3) (wr.heap.size + 1) 7 [y0, y1, y2, y3, y4, y5, y6] (L.map wd) (badL L) (HW.out.below hb3) (by omega) (by omega) (by have := HK.out.size; have := HS4.out; have := hb3.size; omega) (HB.out.trans (hb3.mono HB.out.size)) hh (by simp; have := HLB.out; omega))
            have HKX := Aside0.mk (HK.out.trans (KP.of_below hb3))
            have HB3 := Aside0.mk hb3
            clear hs1 hb1 hb2 hb3 hh
            go_wp2_with fail
            refine HPT.out.mono ?_
            rintro e w7 ⟨rfl, h1, h2, h3⟩
            rw [map_app, badL_app] at h1
            have HW7 := Aside0.mk h1
            have HB7 := Aside0.mk h2
            have HK7 := Aside0.mk (HKX.out.trans h3)
            have HL7 : Aside0 (L ++ [y0, y1, y2, y3, y4, y5, y6] = ([(n0 : Int), (n1 : Int), l0, (n2 : Int), l1, (n3 : Int)] ++ x0.flatMap fP) ++ (x1.take (x + 1).toNat).flatMap fX) := ⟨by rw [HLD.out, HST.out, List.append_assoc]⟩
            have HLB7 : Aside0 (((L ++ [y0, y1, y2, y3, y4, y5, y6]).length : Int) ≤ (6 + 2 * (n0 : Int)) + 7 * (x + 1)) := ⟨by rw [List.length_append]; simp; have := HLB.out; omega⟩
            clear h1 h2 h3 HPT HKX HB3
            go_wp2
            go_roundw
            case rel => exact ⟨x + 1, L ++ [y0, y1, y2, y3, y4, y5, y6], by omega, by omega, by go_num, HL7, HLB7, HW7, HB7, HK7⟩
            case measure => simp [intOf]; omega
          · obtain rfl : x = (n1 : Int) := by omega
            have hd : decide ((n1 : Int) < (n1 : Int)) = false := decide_eq_false (by omega)
            have hfe := HLD.out
            rw [flat_end68 HN1.out] at hfe
            have HLD2 := Aside0.mk hfe
            clear hfe HLD hx0 hx1 hlt
            obtain rfl := HLD2.out
            have HLB0 := Aside0.mk HLB.out
            have HW6 := HW
            have HB6 := HB
            have HK6 := HK
            clear HLB HW HB HK HLD2 hz1 HX6
            have HGF := Aside0.mk ((HK6.out.keep (w.heap.size + 1) (by omega) (by omega) (by have := HS4.out; omega)).trans HG13.out)
            have hy1 := (blk_cell HGF.out 1).trans rfl
            have hy3 := (blk_cell HGF.out 3).trans rfl
            have hb8 := below_alloc (Below.refl _ wr) (.cells #[.slice A2 n2 c2, .slice A3 n3 c3] 26)
            have hss : (wr.alloc (.cells #[.slice A2 n2 c2, .slice A3 n3 c3] 26)).heap.size = wr.heap.size + 1 := by simp
            have hbw := HB6.out.trans (hb8.mono HB6.out.size)
            have hL := HL.out
            have htw := two_slices (x2 := x2) (x3 := x3) (A2 := A2) (A3 := A3) (c2 := c2) (c3 := c3) (W := wr.alloc (.cells #[.slice A2 n2 c2, .slice A3 n3 c3] 26)) (h := wr.heap.size) (T := 26) (by rw [HN2.out, HN3.out]; exact blk_new wr _) (by rw [HN2.out]; exact Kd.C_below HC2.out hbw) (by rw [HN3.out]; exact Kd.C_below HC3.out hbw) (by rw [HN2.out]; exact hL.2.2.1) (by rw [HN3.out]; exact hL.2.2.2)
            have hfl : [x2, x3].flatten = x2 ++ x3 := by simp
            obtain ⟨m, hm⟩ : ∃ m, (x2 ++ x3).length = m := ⟨_, rfl⟩
            have hml : m ≤ 128 := by rw [← hm, List.length_append, HN2.out, HN3.out]; omega
            have hcc := concat_win (some ⟨wr.heap.size, 0, none⟩) 2 2 [x2, x3] (wr.alloc (.cells #[.slice A2 n2 c2, .slice A3 n3 c3] 26)) rfl htw (by rw [hfl, hm]; omega)
            rw [hfl] at hcc
            have HCC := Aside0.mk hcc
            have HB8 := Aside0.mk hb8
            have HSS := Aside0.mk hss
            have HM := Aside0.mk hm
            clear hcc hb8 hss hm hfl htw hbw hL
            go_wp2_with fail
            refine HCC.out.mono ?_
            rintro e w9 ⟨v, rfl, hv, hb9⟩
            obtain ⟨Ac, cc, rfl⟩ := Kd.R_slice hv
            rw [HM.out] at hv ⊢
            have hb10 := HB8.out.trans (hb9.mono HB8.out.size)
            have HW9 := Aside0.mk (HW6.out.below hb10)
            have HB9 := Aside0.mk (HB6.out.trans (hb10.mono HB6.out.size))
            have HK9 := Aside0.mk (HK6.out.trans (KP.of_below hb10))
            obtain ⟨bq, hbq⟩ : ∃ b, (wr.alloc (.cells #[.slice A2 n2 c2, .slice A3 n3 c3] 26)).heap.size = b := ⟨_, rfl⟩
            rw [hbq] at hv
            have HQ9 := Aside0.mk hv
            clear hv hb9 hb10 hbq HCC HB8 HSS hy1 hy3
            go_wp2_with fail
            clear hd
            go_loopw [104] (fun v wr => ∃ (x : Int) (L : List Int), 0 ≤ x ∧ x ≤ m ∧ v = .int .i64 x ∧ Aside0 (L = (([(n0 : Int), (n1 : Int), l0, (n2 : Int), l1, (n3 : Int)] ++ x0.flatMap fP) ++ x1.flatMap fX) ++ ((x2 ++ x3).take x.toNat).flatMap fW) ∧ Aside0 ((L.length : Int) ≤ (6 + 2 * (n0 : Int) + 7 * (n1 : Int)) + 3 * x) ∧ Aside0 (WR wr (w.heap.size + 2) (w.heap.size + 3) (L.map wd) (badL L)) ∧ Aside0 (Below w.heap.size w wr) ∧ Aside0 (KP w3 wr (w.heap.size + 2) (w.heap.size + 3)) ∧ Aside0 (Kd.R k72 72 wr bq (fun _ => True) (.slice Ac m cc) (x2 ++ x3))) (fun v _ => m - (intOf v).toNat)
            case atStart => exact ⟨0, (([(n0 : Int), (n1 : Int), l0, (n2 : Int), l1, (n3 : Int)] ++ x0.flatMap fP) ++ x1.flatMap fX), by omega, by omega, rfl, ⟨by simp⟩, ⟨by have := HLB0.out; omega⟩, HW9, HB9, HK9, HQ9⟩
            case round =>
              obtain ⟨x, L, hx0, hx1, rfl, HLD, HLB, HW, HB, HK, HQ⟩ := hrel
              by_cases hlt : x < m
              · have hd : decide (x < (m : Int)) = true := decide_eq_true hlt
                obtain ⟨ad, e1, he0, he1, he2⟩ := at_T72 (n := m) (A := Ac) (xs := x2 ++ x3) (by have h := (Kd.R_reads' HQ.out).2.2; rw [HM.out] at h; exact h) x hx0 hlt
                cases e1
                have hst := flat_step72 (x2 ++ x3) hx0 (by rw [HM.out]; exact hlt)
                generalize rd_T72 (x2 ++ x3) x = y at *
                rw [show fW y = [y.f0, y.f1, y.f2] from rfl] at hst
                generalize y.f0 = y0 at *
                generalize y.f1 = y1 at *
                generalize y.f2 = y2 at *
                have HST := Aside0.mk hst
                clear hst
                have p0 := eq_true hx0
                have p1 := eq_true hlt
                have hs1 : (wr.alloc (.cells #[.int .i64 y0, .int .i64 y1, .int .i64 y2] 72)).heap.size = wr.heap.size + 1 := by simp
                have hb1 := below_alloc (Below.refl _ wr) (.cells #[.int .i64 y0, .int .i64 y1, .int .i64 y2] 72)
                have hb2 := below_alloc (Below.refl _ (wr.alloc (.cells #[.int .i64 y0, .int .i64 y1, .int .i64 y2] 72))) (.cells #[.int .i64 y0, .int .i64 y1, .int .i64 y2] 3)
                have hb3 := hb1.trans (hb2.mono (by omega))
                have hh := blk_new (wr.alloc (.cells #[.int .i64 y0, .int .i64 y1, .int .i64 y2] 72)) (.cells #[.int .i64 y0, .int .i64 y1, .int .i64 y2] 3)
                rw [hs1] at hh
                have HPT := Aside0.mk (put_calls w ((wr.alloc (.cells #[.int .i64 y0, .int .i64 y1, .int .i64 y2] 72)).alloc (.cells #[.int .i64 y0, .int .i64 y1, .int .i64 y2] 3)) (w.heap.size + 2) (w.heap.size + 3) (wr.heap.size + 1) 3 [y0, y1, y2] (L.map wd) (badL L) (HW.out.below hb3) (by omega) (by omega) (by have := HK.out.size; have := HS4.out; have := hb3.size; omega) (HB.out.trans (hb3.mono HB.out.size)) hh (by simp; have := HLB.out; omega))
                have HKX := Aside0.mk (HK.out.trans (KP.of_below hb3))
                have HB3 := Aside0.mk hb3
                clear hs1 hb1 hb2 hb3 hh
                go_wp2_with fail
                refine HPT.out.mono ?_
                rintro e w7 ⟨rfl, h1, h2, h3⟩
                rw [map_app, badL_app] at h1
                have HW7 := Aside0.mk h1
                have HB7 := Aside0.mk h2
                have HK7 := Aside0.mk (HKX.out.trans h3)
                have HL7 : Aside0 (L ++ [y0, y1, y2] = (([(n0 : Int), (n1 : Int), l0, (n2 : Int), l1, (n3 : Int)] ++ x0.flatMap fP) ++ x1.flatMap fX) ++ ((x2 ++ x3).take (x + 1).toNat).flatMap fW) := ⟨by rw [HLD.out, HST.out, List.append_assoc]⟩
                have HLB7 : Aside0 (((L ++ [y0, y1, y2]).length : Int) ≤ (6 + 2 * (n0 : Int) + 7 * (n1 : Int)) + 3 * (x + 1)) := ⟨by rw [List.length_append]; simp; have := HLB.out; omega⟩
                obtain ⟨vw, hvw, _⟩ := (HW.out.below HB3.out).all
                have HQ7 := Aside0.mk (R_kp (Kd.R_below HQ.out HB3.out) h3 hvw (by decide) (by decide))
                clear h1 h2 h3 HPT HKX HB3
                go_wp2
                go_roundw
                case rel => exact ⟨x + 1, L ++ [y0, y1, y2], by omega, by omega, by go_num, HL7, HLB7, HW7, HB7, HK7, HQ7⟩
                case measure => simp [intOf]; omega
              · obtain rfl : x = (m : Int) := by omega
                have hd : decide ((m : Int) < (m : Int)) = false := decide_eq_false (by omega)
                have hfe := HLD.out
                rw [flat_end72 HM.out] at hfe
                have HLD2 := Aside0.mk hfe
                clear hfe HLD hx0 hx1 hlt
                have HFIN : Aside0 (L = NL) := ⟨by rw [HLD2.out, HNL.out]⟩
                obtain ⟨v, hv, hR⟩ := HW.out.all
                obtain ⟨Av, cv, rfl⟩ := Kd.R_slice hR
                have hlen : (L.map wd).length = (NL.map wd).length := by rw [HFIN.out]
                rw [hlen] at hv hR
                have hR2 : Kd.R (Kd.int .u32) 43 wr (w.heap.size + 3) (fun j => w.heap.size + 3 ≤ j) (.slice Av (NL.map wd).length cv) (NL.map wd) := by
                  have h := hR
                  rw [HFIN.out] at h
                  exact h
                have hbv : badL L = badL NL := by rw [HFIN.out]
                rw [hbv] at hv
                have hP := HPL.out
                have HR := Aside0.mk hR2
                clear hR hR2 hlen hbv HPL HFIN HLD2 HNL HLB HK
                cases hbad : badL NL with
                | true =>
                  rw [hbad] at hv
                  have hc1 := (blk_cell hv 1).trans rfl
                  have HE : Aside0 (pl = []) := ⟨by rw [hP, hbad]; rfl⟩
                  clear hP hbad hv
                  go_wp2
                  go_ret
                  exact ⟨none, 0, by rw [HE.out]; rfl, by rw [HE.out]; exact Nat.le_refl _, by rw [HE.out]; exact Kd.C_nil _ _, HB.out⟩
                | false =>
                  rw [hbad] at hv
                  obtain ⟨wl, hwl⟩ : ∃ l, (NL.map wd).length = l := ⟨_, rfl⟩
                  rw [hwl] at hv
                  have hc0 := (blk_cell hv 0).trans rfl
                  have hc1 := (blk_cell hv 1).trans rfl
                  have HE : Aside0 (pl = NL.map wd) := ⟨by rw [hP, hbad]; rfl⟩
                  have HWL := Aside0.mk hwl
                  clear hP hbad hv hwl
                  go_wp2
                  go_ret
                  have h := Kd.R_reads' HR.out
                  exact ⟨Av, cv, by rw [HE.out, HWL.out]; rfl, by rw [HE.out]; exact h.2.1, by rw [HE.out]; exact h.2.2, HB.out⟩
end Go.Proofs.Ytbpmmabdjabfcaa.Table
