import Derived.Test.YtbpmmabdjabfcaaTableSame
import Derived.Test.YtbpmmabdjabfcaaTablePut
import Derived.Test.YtbpmmabdjabfcaaPTx32
/- Package portholeref06: Told answers whether a configuration is told by words. Written by wip/tabletold.py. -/
namespace Go.Proofs.Ytbpmmabdjabfcaa.Table
open Go.RowKit Go.Proofs.YtbpmmabdjabfcaaW.PrintWords Go.Proofs.YtbpmmabdjabfcaaW.PrintLast Go.Proofs.YtbpmmabdjabfcaaW.PrintMore Go.Proofs.Ytbpmmabdjabfcaa.Box Go.Proofs.Ytbpmmabdjabfcaa.PT
set_option linter.unusedSimpArgs false
set_option linter.unusedVariables false
theorem word_calls (n : Int) (w : World) : Calls Try.prog 46 #[.int .i64 n] w fun e w' => e = .returned (.bool (fitB n)) ∧ Drawn0 w w' :=
  portholeref06_word.calls n (fitB n) w (by
    unfold portholeref06_word.f fitB
    by_cases h : n ≥ 0
    · rw [if_pos h]; congr 1; rw [decide_eq_decide]; omega
    · rw [if_neg h]; congr 1; exact (decide_eq_false (by omega)).symm)
def okP (y : S64) : Bool := fitB y.f0 && fitB y.f1
def okX (y : S68) : Bool := fitB y.f0 && (fitB y.f1 && (fitB y.f2 && (fitB y.f3 && (fitB y.f4 && fitB y.f5))))
def okW (y : S72) : Bool := fitB y.f0 && (fitB y.f1 && fitB y.f2)
/-- Few enough rows. -/
def fewB (c : Cfg) : Bool := !decide (64 < c.ps.length) && (!decide (64 < c.xs.length) && (!decide (64 < c.ws0.length) && !decide (64 < c.ws1.length)))
/-- All numbers are words. -/
def allB (c : Cfg) : Bool := c.ps.all okP && (c.xs.all okX && ((fitB c.l0 && c.ws0.all okW) && (fitB c.l1 && c.ws1.all okW)))
def toldB (c : Cfg) : Bool := fewB c && allB c
theorem all_succ64 (p : List S64) {x : Int} (h0 : 0 ≤ x) (h1 : x < p.length) (ht : (p.take x.toNat).all okP = true) (hk : okP (rd_T64 p x) = true) : (p.take (x + 1).toNat).all okP = true := by
  unfold rd_T64 at hk
  rw [List.getD_eq_getElem?_getD, List.getElem?_eq_getElem (by omega)] at hk
  have e : p.take (x + 1).toNat = p.take x.toNat ++ [p[x.toNat]'(by omega)] := by rw [show (x + 1).toNat = x.toNat + 1 by omega, List.take_add_one, List.getElem?_eq_getElem (by omega)]; rfl
  rw [e, List.all_append, ht]
  simpa using hk
theorem all_fail64 (p : List S64) {x : Int} (h0 : 0 ≤ x) (h1 : x < p.length) (hk : okP (rd_T64 p x) = false) : p.all okP = false := by
  unfold rd_T64 at hk
  rw [List.getD_eq_getElem?_getD, List.getElem?_eq_getElem (by omega)] at hk
  exact List.all_eq_false.2 ⟨p[x.toNat]'(by omega), List.getElem_mem (by omega), by simpa using hk⟩
theorem all_end64 {p : List S64} {n : Nat} (h1 : p.length = n) (ht : (p.take (n : Int).toNat).all okP = true) : p.all okP = true := by
  rw [List.take_of_length_le (by omega)] at ht
  exact ht
theorem all_succ68 (p : List S68) {x : Int} (h0 : 0 ≤ x) (h1 : x < p.length) (ht : (p.take x.toNat).all okX = true) (hk : okX (rd_T68 p x) = true) : (p.take (x + 1).toNat).all okX = true := by
  unfold rd_T68 at hk
  rw [List.getD_eq_getElem?_getD, List.getElem?_eq_getElem (by omega)] at hk
  have e : p.take (x + 1).toNat = p.take x.toNat ++ [p[x.toNat]'(by omega)] := by rw [show (x + 1).toNat = x.toNat + 1 by omega, List.take_add_one, List.getElem?_eq_getElem (by omega)]; rfl
  rw [e, List.all_append, ht]
  simpa using hk
theorem all_fail68 (p : List S68) {x : Int} (h0 : 0 ≤ x) (h1 : x < p.length) (hk : okX (rd_T68 p x) = false) : p.all okX = false := by
  unfold rd_T68 at hk
  rw [List.getD_eq_getElem?_getD, List.getElem?_eq_getElem (by omega)] at hk
  exact List.all_eq_false.2 ⟨p[x.toNat]'(by omega), List.getElem_mem (by omega), by simpa using hk⟩
theorem all_end68 {p : List S68} {n : Nat} (h1 : p.length = n) (ht : (p.take (n : Int).toNat).all okX = true) : p.all okX = true := by
  rw [List.take_of_length_le (by omega)] at ht
  exact ht
theorem all_succ72 (p : List S72) {x : Int} (h0 : 0 ≤ x) (h1 : x < p.length) (ht : (p.take x.toNat).all okW = true) (hk : okW (rd_T72 p x) = true) : (p.take (x + 1).toNat).all okW = true := by
  unfold rd_T72 at hk
  rw [List.getD_eq_getElem?_getD, List.getElem?_eq_getElem (by omega)] at hk
  have e : p.take (x + 1).toNat = p.take x.toNat ++ [p[x.toNat]'(by omega)] := by rw [show (x + 1).toNat = x.toNat + 1 by omega, List.take_add_one, List.getElem?_eq_getElem (by omega)]; rfl
  rw [e, List.all_append, ht]
  simpa using hk
theorem all_fail72 (p : List S72) {x : Int} (h0 : 0 ≤ x) (h1 : x < p.length) (hk : okW (rd_T72 p x) = false) : p.all okW = false := by
  unfold rd_T72 at hk
  rw [List.getD_eq_getElem?_getD, List.getElem?_eq_getElem (by omega)] at hk
  exact List.all_eq_false.2 ⟨p[x.toNat]'(by omega), List.getElem_mem (by omega), by simpa using hk⟩
theorem all_end72 {p : List S72} {n : Nat} (h1 : p.length = n) (ht : (p.take (n : Int).toNat).all okW = true) : p.all okW = true := by
  rw [List.take_of_length_le (by omega)] at ht
  exact ht
/-- The box of the call's own, and what was there before. -/
structure SB (w W : World) (x0 x1 x2 x3 x4 x5 : Value) : Prop where
  ba : W.heap[w.heap.size]? = some (.cells #[x0, x1, x2, x3, x4, x5] 31 (0, 0))
  bel : Below w.heap.size w W
theorem SB.start (w : World) (x0 x1 x2 x3 x4 x5 : Value) : SB w (w.alloc (.cells #[x0, x1, x2, x3, x4, x5] 31)) x0 x1 x2 x3 x4 x5 := ⟨blk_new w _, below_alloc (Below.refl _ w) _⟩
section
variable {w W W' : World} {x0 x1 x2 x3 x4 x5 : Value}
theorem SB.to (h : SB w W x0 x1 x2 x3 x4 x5) (hb : Below W.heap.size W W') : SB w W' x0 x1 x2 x3 x4 x5 := ⟨blk_below h.ba hb, h.bel.trans (hb.mono h.bel.size)⟩
theorem SB.drawn (h : SB w W x0 x1 x2 x3 x4 x5) (hd : Drawn0 W W') : SB w W' x0 x1 x2 x3 x4 x5 := h.to (below_drawn0 (Below.refl _ _) hd)
theorem SB.alloc (h : SB w W x0 x1 x2 x3 x4 x5) (o : Obj) : SB w (W.alloc o) x0 x1 x2 x3 x4 x5 := h.to (below_alloc (Below.refl _ _) _)
theorem SB.a0 (h : SB w W x0 x1 x2 x3 x4 x5) : W.cell? ⟨w.heap.size, 0, none⟩ = some x0 := (blk_cell h.ba 0).trans rfl
theorem SB.a1 (h : SB w W x0 x1 x2 x3 x4 x5) : W.cell? ⟨w.heap.size, 1, none⟩ = some x1 := (blk_cell h.ba 1).trans rfl
theorem SB.a2 (h : SB w W x0 x1 x2 x3 x4 x5) : W.cell? ⟨w.heap.size, 2, none⟩ = some x2 := (blk_cell h.ba 2).trans rfl
theorem SB.a3 (h : SB w W x0 x1 x2 x3 x4 x5) : W.cell? ⟨w.heap.size, 3, none⟩ = some x3 := (blk_cell h.ba 3).trans rfl
theorem SB.a4 (h : SB w W x0 x1 x2 x3 x4 x5) : W.cell? ⟨w.heap.size, 4, none⟩ = some x4 := (blk_cell h.ba 4).trans rfl
theorem SB.a5 (h : SB w W x0 x1 x2 x3 x4 x5) : W.cell? ⟨w.heap.size, 5, none⟩ = some x5 := (blk_cell h.ba 5).trans rfl
end
theorem cell_drawn {W W' : World} {a : Addr} {v : Value} (hd : Drawn0 W W') (h : W.cell? a = some v) : W'.cell? a = some v := by
  obtain ⟨n, rfl⟩ := hd.out
  exact h
set_option maxRecDepth 20000 in
set_option maxHeartbeats 8000000 in
theorem told_calls {w : World} {c : Cfg} {cs : Array Value} (h : IsCfg w c cs) : Calls Try.prog 20 #[.agg cs] w fun e w' => e = .returned (.bool (toldB c)) ∧ Below w.heap.size w w' := by
  obtain ⟨A0, c0, A1, c1, A2, c2, A3, c3, rfl, hl, r0, r1, r2, r3⟩ := h
  obtain ⟨r, hr⟩ : ∃ r, toldB c = r := ⟨_, rfl⟩
  rw [hr]
  have hr' : r = (fewB c && (c.ps.all okP && (c.xs.all okX && ((fitB c.l0 && c.ws0.all okW) && (fitB c.l1 && c.ws1.all okW))))) := hr.symm
  clear hr hl
  unfold fewB at hr'
  have HP := Aside0.mk (SB.start w (.slice A0 c.ps.length c0) (.slice A1 c.xs.length c1) (.int .i64 c.l0) (.slice A2 c.ws0.length c2) (.int .i64 c.l1) (.slice A3 c.ws1.length c3))
  generalize c.ps = x0 at *
  generalize c.xs = x1 at *
  generalize c.ws0 = x2 at *
  generalize c.ws1 = x3 at *
  have HL0 := Aside0.mk (word_calls c.l0)
  have HL1 := Aside0.mk (word_calls c.l1)
  generalize fitB c.l0 = q0 at *
  generalize fitB c.l1 = q1 at *
  generalize c.l0 = l0 at *
  generalize c.l1 = l1 at *
  obtain ⟨n0, hn0⟩ : ∃ n, x0.length = n := ⟨_, rfl⟩
  obtain ⟨n1, hn1⟩ : ∃ n, x1.length = n := ⟨_, rfl⟩
  obtain ⟨n2, hn2⟩ : ∃ n, x2.length = n := ⟨_, rfl⟩
  obtain ⟨n3, hn3⟩ : ∃ n, x3.length = n := ⟨_, rfl⟩
  rw [hn0] at r0
  rw [hn1] at r1
  rw [hn2] at r2
  rw [hn3] at r3
  rw [hn0, hn1, hn2, hn3] at HP hr' ⊢
  have HN0 := Aside0.mk hn0
  have HN1 := Aside0.mk hn1
  have HN2 := Aside0.mk hn2
  have HN3 := Aside0.mk hn3
  have HC0 := Aside0.mk r0
  have HC1 := Aside0.mk r1
  have HC2 := Aside0.mk r2
  have HC3 := Aside0.mk r3
  clear hn0 hn1 hn2 hn3 r0 r1 r2 r3
  by_cases g0 : 64 < n0
  · have d0 : decide ((64 : Int) < (n0 : Int)) = true := decide_eq_true (by omega)
    have HF : Aside0 (r = false) := ⟨by rw [hr', decide_eq_true g0]; simp⟩
    clear g0 hr'
    go_enter Try.func20, Try.ntmps20
    go_wp2
    go_ret
    exact ⟨by rw [HF.out]; rfl, HP.out.bel⟩
  · have d0 : decide ((64 : Int) < (n0 : Int)) = false := decide_eq_false (by omega)
    by_cases g1 : 64 < n1
    · have d1 : decide ((64 : Int) < (n1 : Int)) = true := decide_eq_true (by omega)
      have HF : Aside0 (r = false) := ⟨by rw [hr', decide_eq_true g1]; simp⟩
      clear g1 hr'
      go_enter Try.func20, Try.ntmps20
      go_wp2
      go_ret
      exact ⟨by rw [HF.out]; rfl, HP.out.bel⟩
    · have d1 : decide ((64 : Int) < (n1 : Int)) = false := decide_eq_false (by omega)
      by_cases g2 : 64 < n2
      · have d2 : decide ((64 : Int) < (n2 : Int)) = true := decide_eq_true (by omega)
        have HF : Aside0 (r = false) := ⟨by rw [hr', decide_eq_true g2]; simp⟩
        clear g2 hr'
        go_enter Try.func20, Try.ntmps20
        go_wp2
        go_ret
        exact ⟨by rw [HF.out]; rfl, HP.out.bel⟩
      · have d2 : decide ((64 : Int) < (n2 : Int)) = false := decide_eq_false (by omega)
        by_cases g3 : 64 < n3
        · have d3 : decide ((64 : Int) < (n3 : Int)) = true := decide_eq_true (by omega)
          have HF : Aside0 (r = false) := ⟨by rw [hr', decide_eq_true g3]; simp⟩
          clear g3 hr'
          go_enter Try.func20, Try.ntmps20
          go_wp2
          go_ret
          exact ⟨by rw [HF.out]; rfl, HP.out.bel⟩
        · have d3 : decide ((64 : Int) < (n3 : Int)) = false := decide_eq_false (by omega)
          have HR : Aside0 (r = (x0.all okP && (x1.all okX && ((q0 && x2.all okW) && (q1 && x3.all okW))))) := ⟨by rw [hr', decide_eq_false g0, decide_eq_false g1, decide_eq_false g2, decide_eq_false g3]; rfl⟩
          clear hr' g0 g1 g2 g3
          have hs0 : n0 ≤ 64 := by have := of_decide_eq_false d0; omega
          have hs1 : n1 ≤ 64 := by have := of_decide_eq_false d1; omega
          have hs2 : n2 ≤ 64 := by have := of_decide_eq_false d2; omega
          have hs3 : n3 ≤ 64 := by have := of_decide_eq_false d3; omega
          go_enter Try.func20, Try.ntmps20
          go_upto_region 3 with fail
          generalize w.alloc (.cells #[.slice A0 n0 c0, .slice A1 n1 c1, .int .i64 l0, .slice A2 n2 c2, .int .i64 l1, .slice A3 n3 c3] 31) = w1 at *
          clear d0 d1 d2 d3
          go_wp2_with fail
          go_loopw [3] (fun v wr => ∃ x : Int, 0 ≤ x ∧ x ≤ n0 ∧ v = .int .i64 x ∧ Aside0 ((x0.take x.toNat).all okP = true) ∧ Aside0 (SB w wr (.slice A0 n0 c0) (.slice A1 n1 c1) (.int .i64 l0) (.slice A2 n2 c2) (.int .i64 l1) (.slice A3 n3 c3))) (fun v _ => n0 - (intOf v).toNat)
          case atStart => exact ⟨0, by omega, by omega, rfl, ⟨rfl⟩, HP⟩
          case round =>
            obtain ⟨x, hx0, hx1, rfl, HT, HX⟩ := hrel
            have ha0 := HX.out.a0
            have ha1 := HX.out.a1
            have ha2 := HX.out.a2
            have ha3 := HX.out.a3
            have ha4 := HX.out.a4
            have ha5 := HX.out.a5
            by_cases hlt : x < n0
            · have hd : decide (x < (n0 : Int)) = true := decide_eq_true hlt
              obtain ⟨ad, e1, he0, he1⟩ := at_T64 HC0.out x hx0 hlt
              cases e1
              replace he0 := pw_cell_below HX.out.bel he0
              replace he1 := pw_cell_below HX.out.bel he1
              have hsn := all_succ64 x0 (x := x) hx0 (by rw [HN0.out]; exact hlt) HT.out
              have hfl := all_fail64 x0 (x := x) hx0 (by rw [HN0.out]; exact hlt)
              generalize rd_T64 x0 x = y at *
              rw [show okP y = (fitB y.f0 && fitB y.f1) from rfl] at hsn hfl
              generalize y.f0 = y0 at *
              generalize y.f1 = y1 at *
              have HF0 := Aside0.mk (word_calls y0)
              generalize fitB y0 = f0 at *
              have HF1 := Aside0.mk (word_calls y1)
              generalize fitB y1 = f1 at *
              have HSN := Aside0.mk hsn
              have HFAIL : Aside0 ((f0 && f1) = false → r = false) := ⟨fun h => by rw [HR.out, hfl h]; rfl⟩
              clear hsn hfl
              have p0 := eq_true hx0
              have p1 := eq_true hlt
              go_wp2_with fail
              refine (HF0.out _).mono ?_
              rintro e wb1 ⟨rfl, hdr⟩
              have HB1 := Aside0.mk (HX.out.drawn hdr)
              clear ha0 ha1 ha2 ha3 ha4 ha5
              have ha0 := HB1.out.a0
              have ha1 := HB1.out.a1
              have ha2 := HB1.out.a2
              have ha3 := HB1.out.a3
              have ha4 := HB1.out.a4
              have ha5 := HB1.out.a5
              replace he0 := cell_drawn hdr he0
              replace he1 := cell_drawn hdr he1
              clear hdr
              cases f0 with
              | false =>
                have HX := Aside0.mk (HFAIL.out (by simp))
                go_wp2
                go_ret
                exact ⟨by rw [HX.out]; rfl, HB1.out.bel⟩
              | true =>
                go_wp2_with fail
                refine (HF1.out _).mono ?_
                rintro e wb2 ⟨rfl, hdr⟩
                have HB2 := Aside0.mk (HB1.out.drawn hdr)
                clear ha0 ha1 ha2 ha3 ha4 ha5
                have ha0 := HB2.out.a0
                have ha1 := HB2.out.a1
                have ha2 := HB2.out.a2
                have ha3 := HB2.out.a3
                have ha4 := HB2.out.a4
                have ha5 := HB2.out.a5
                replace he0 := cell_drawn hdr he0
                replace he1 := cell_drawn hdr he1
                clear hdr
                cases f1 with
                | false =>
                  have HX := Aside0.mk (HFAIL.out (by simp))
                  go_wp2
                  go_ret
                  exact ⟨by rw [HX.out]; rfl, HB2.out.bel⟩
                | true =>
                  have HY := Aside0.mk (HSN.out (by simp))
                  go_wp2
                  go_roundw
                  case rel => exact ⟨x + 1, by omega, by omega, by go_num, HY, HB2⟩
                  case measure => simp [intOf]; omega
            · obtain rfl : x = (n0 : Int) := by omega
              have hd : decide ((n0 : Int) < (n0 : Int)) = false := decide_eq_false (by omega)
              have HA0 := Aside0.mk (all_end64 HN0.out HT.out)
              clear HT hx0 hx1 hlt
              go_wp2_with fail
              clear hd
              clear ha0 ha1 ha2 ha3 ha4 ha5
              have HX0 := HX
              clear HX
              go_loopw [4] (fun v wr => ∃ x : Int, 0 ≤ x ∧ x ≤ n1 ∧ v = .int .i64 x ∧ Aside0 ((x1.take x.toNat).all okX = true) ∧ Aside0 (SB w wr (.slice A0 n0 c0) (.slice A1 n1 c1) (.int .i64 l0) (.slice A2 n2 c2) (.int .i64 l1) (.slice A3 n3 c3))) (fun v _ => n1 - (intOf v).toNat)
              case atStart => exact ⟨0, by omega, by omega, rfl, ⟨rfl⟩, HX0⟩
              case round =>
                obtain ⟨x, hx0, hx1, rfl, HT, HX⟩ := hrel
                have ha0 := HX.out.a0
                have ha1 := HX.out.a1
                have ha2 := HX.out.a2
                have ha3 := HX.out.a3
                have ha4 := HX.out.a4
                have ha5 := HX.out.a5
                by_cases hlt : x < n1
                · have hd : decide (x < (n1 : Int)) = true := decide_eq_true hlt
                  obtain ⟨ad, e1, he0, he1, he2, he3, he4, he5, he6⟩ := at_T68 HC1.out x hx0 hlt
                  cases e1
                  replace he0 := pw_cell_below HX.out.bel he0
                  replace he1 := pw_cell_below HX.out.bel he1
                  replace he2 := pw_cell_below HX.out.bel he2
                  replace he3 := pw_cell_below HX.out.bel he3
                  replace he4 := pw_cell_below HX.out.bel he4
                  replace he5 := pw_cell_below HX.out.bel he5
                  replace he6 := pw_cell_below HX.out.bel he6
                  have hsn := all_succ68 x1 (x := x) hx0 (by rw [HN1.out]; exact hlt) HT.out
                  have hfl := all_fail68 x1 (x := x) hx0 (by rw [HN1.out]; exact hlt)
                  generalize rd_T68 x1 x = y at *
                  rw [show okX y = (fitB y.f0 && (fitB y.f1 && (fitB y.f2 && (fitB y.f3 && (fitB y.f4 && fitB y.f5))))) from rfl] at hsn hfl
                  generalize y.f0 = y0 at *
                  generalize y.f1 = y1 at *
                  generalize y.f2 = y2 at *
                  generalize y.f3 = y3 at *
                  generalize y.f4 = y4 at *
                  generalize y.f5 = y5 at *
                  generalize y.f6 = y6 at *
                  have HF0 := Aside0.mk (word_calls y0)
                  generalize fitB y0 = f0 at *
                  have HF1 := Aside0.mk (word_calls y1)
                  generalize fitB y1 = f1 at *
                  have HF2 := Aside0.mk (word_calls y2)
                  generalize fitB y2 = f2 at *
                  have HF3 := Aside0.mk (word_calls y3)
                  generalize fitB y3 = f3 at *
                  have HF4 := Aside0.mk (word_calls y4)
                  generalize fitB y4 = f4 at *
                  have HF5 := Aside0.mk (word_calls y5)
                  generalize fitB y5 = f5 at *
                  have HSN := Aside0.mk hsn
                  have HFAIL : Aside0 ((f0 && (f1 && (f2 && (f3 && (f4 && f5))))) = false → r = false) := ⟨fun h => by rw [HR.out, hfl h]; simp⟩
                  clear hsn hfl
                  have p0 := eq_true hx0
                  have p1 := eq_true hlt
                  have HXa := Aside0.mk (HX.out.alloc (.cells #[.int .i64 y0, .int .i64 y1, .int .i64 y2, .int .i64 y3, .int .i64 y4, .int .i64 y5, .int .u32 y6] 68))
                  have HGa := Aside0.mk (blk_new wr (.cells #[.int .i64 y0, .int .i64 y1, .int .i64 y2, .int .i64 y3, .int .i64 y4, .int .i64 y5, .int .u32 y6] 68))
                  have hst : wr.heap.size < (wr.alloc (.cells #[.int .i64 y0, .int .i64 y1, .int .i64 y2, .int .i64 y3, .int .i64 y4, .int .i64 y5, .int .u32 y6] 68)).heap.size := by simp
                  go_upto_region 12 with fail
                  generalize hwa : wr.alloc (.cells #[.int .i64 y0, .int .i64 y1, .int .i64 y2, .int .i64 y3, .int .i64 y4, .int .i64 y5, .int .u32 y6] 68) = wa at *
                  clear hwa
                  clear ha0 ha1 ha2 ha3 ha4 ha5
                  have ha0 := HXa.out.a0
                  have ha1 := HXa.out.a1
                  have ha2 := HXa.out.a2
                  have ha3 := HXa.out.a3
                  have ha4 := HXa.out.a4
                  have ha5 := HXa.out.a5
                  have hg0 : wa.cell? ⟨wr.heap.size, 0, none⟩ = some (.int .i64 y0) := (blk_cell HGa.out 0).trans rfl
                  have hg1 : wa.cell? ⟨wr.heap.size, 1, none⟩ = some (.int .i64 y1) := (blk_cell HGa.out 1).trans rfl
                  have hg2 : wa.cell? ⟨wr.heap.size, 2, none⟩ = some (.int .i64 y2) := (blk_cell HGa.out 2).trans rfl
                  have hg3 : wa.cell? ⟨wr.heap.size, 3, none⟩ = some (.int .i64 y3) := (blk_cell HGa.out 3).trans rfl
                  have hg4 : wa.cell? ⟨wr.heap.size, 4, none⟩ = some (.int .i64 y4) := (blk_cell HGa.out 4).trans rfl
                  have hg5 : wa.cell? ⟨wr.heap.size, 5, none⟩ = some (.int .i64 y5) := (blk_cell HGa.out 5).trans rfl
                  have hg6 : wa.cell? ⟨wr.heap.size, 6, none⟩ = some (.int .u32 y6) := (blk_cell HGa.out 6).trans rfl
                  clear he0 he1 he2 he3 he4 he5 he6
                  go_wp2_with fail
                  refine (HF0.out _).mono ?_
                  rintro e wb1 ⟨rfl, hdr⟩
                  have HB1 := Aside0.mk (HXa.out.drawn hdr)
                  clear ha0 ha1 ha2 ha3 ha4 ha5
                  have ha0 := HB1.out.a0
                  have ha1 := HB1.out.a1
                  have ha2 := HB1.out.a2
                  have ha3 := HB1.out.a3
                  have ha4 := HB1.out.a4
                  have ha5 := HB1.out.a5
                  replace hg0 := cell_drawn hdr hg0
                  replace hg1 := cell_drawn hdr hg1
                  replace hg2 := cell_drawn hdr hg2
                  replace hg3 := cell_drawn hdr hg3
                  replace hg4 := cell_drawn hdr hg4
                  replace hg5 := cell_drawn hdr hg5
                  replace hg6 := cell_drawn hdr hg6
                  clear hdr
                  cases f0 with
                  | false =>
                    have HX := Aside0.mk (HFAIL.out (by simp))
                    go_wp2
                    go_ret
                    exact ⟨by rw [HX.out]; rfl, HB1.out.bel⟩
                  | true =>
                    go_wp2_with fail
                    refine (HF1.out _).mono ?_
                    rintro e wb2 ⟨rfl, hdr⟩
                    have HB2 := Aside0.mk (HB1.out.drawn hdr)
                    clear ha0 ha1 ha2 ha3 ha4 ha5
                    have ha0 := HB2.out.a0
                    have ha1 := HB2.out.a1
                    have ha2 := HB2.out.a2
                    have ha3 := HB2.out.a3
                    have ha4 := HB2.out.a4
                    have ha5 := HB2.out.a5
                    replace hg0 := cell_drawn hdr hg0
                    replace hg1 := cell_drawn hdr hg1
                    replace hg2 := cell_drawn hdr hg2
                    replace hg3 := cell_drawn hdr hg3
                    replace hg4 := cell_drawn hdr hg4
                    replace hg5 := cell_drawn hdr hg5
                    replace hg6 := cell_drawn hdr hg6
                    clear hdr
                    cases f1 with
                    | false =>
                      have HX := Aside0.mk (HFAIL.out (by simp))
                      go_wp2
                      go_ret
                      exact ⟨by rw [HX.out]; rfl, HB2.out.bel⟩
                    | true =>
                      go_wp2_with fail
                      refine (HF2.out _).mono ?_
                      rintro e wb3 ⟨rfl, hdr⟩
                      have HB3 := Aside0.mk (HB2.out.drawn hdr)
                      clear ha0 ha1 ha2 ha3 ha4 ha5
                      have ha0 := HB3.out.a0
                      have ha1 := HB3.out.a1
                      have ha2 := HB3.out.a2
                      have ha3 := HB3.out.a3
                      have ha4 := HB3.out.a4
                      have ha5 := HB3.out.a5
                      replace hg0 := cell_drawn hdr hg0
                      replace hg1 := cell_drawn hdr hg1
                      replace hg2 := cell_drawn hdr hg2
                      replace hg3 := cell_drawn hdr hg3
                      replace hg4 := cell_drawn hdr hg4
                      replace hg5 := cell_drawn hdr hg5
                      replace hg6 := cell_drawn hdr hg6
                      clear hdr
                      cases f2 with
                      | false =>
                        have HX := Aside0.mk (HFAIL.out (by simp))
                        go_wp2
                        go_ret
                        exact ⟨by rw [HX.out]; rfl, HB3.out.bel⟩
                      | true =>
                        go_wp2_with fail
                        refine (HF3.out _).mono ?_
                        rintro e wb4 ⟨rfl, hdr⟩
                        have HB4 := Aside0.mk (HB3.out.drawn hdr)
                        clear ha0 ha1 ha2 ha3 ha4 ha5
                        have ha0 := HB4.out.a0
                        have ha1 := HB4.out.a1
                        have ha2 := HB4.out.a2
                        have ha3 := HB4.out.a3
                        have ha4 := HB4.out.a4
                        have ha5 := HB4.out.a5
                        replace hg0 := cell_drawn hdr hg0
                        replace hg1 := cell_drawn hdr hg1
                        replace hg2 := cell_drawn hdr hg2
                        replace hg3 := cell_drawn hdr hg3
                        replace hg4 := cell_drawn hdr hg4
                        replace hg5 := cell_drawn hdr hg5
                        replace hg6 := cell_drawn hdr hg6
                        clear hdr
                        cases f3 with
                        | false =>
                          have HX := Aside0.mk (HFAIL.out (by simp))
                          go_wp2
                          go_ret
                          exact ⟨by rw [HX.out]; rfl, HB4.out.bel⟩
                        | true =>
                          go_wp2_with fail
                          refine (HF4.out _).mono ?_
                          rintro e wb5 ⟨rfl, hdr⟩
                          have HB5 := Aside0.mk (HB4.out.drawn hdr)
                          clear ha0 ha1 ha2 ha3 ha4 ha5
                          have ha0 := HB5.out.a0
                          have ha1 := HB5.out.a1
                          have ha2 := HB5.out.a2
                          have ha3 := HB5.out.a3
                          have ha4 := HB5.out.a4
                          have ha5 := HB5.out.a5
                          replace hg0 := cell_drawn hdr hg0
                          replace hg1 := cell_drawn hdr hg1
                          replace hg2 := cell_drawn hdr hg2
                          replace hg3 := cell_drawn hdr hg3
                          replace hg4 := cell_drawn hdr hg4
                          replace hg5 := cell_drawn hdr hg5
                          replace hg6 := cell_drawn hdr hg6
                          clear hdr
                          cases f4 with
                          | false =>
                            have HX := Aside0.mk (HFAIL.out (by simp))
                            go_wp2
                            go_ret
                            exact ⟨by rw [HX.out]; rfl, HB5.out.bel⟩
                          | true =>
                            go_wp2_with fail
                            refine (HF5.out _).mono ?_
                            rintro e wb6 ⟨rfl, hdr⟩
                            have HB6 := Aside0.mk (HB5.out.drawn hdr)
                            clear ha0 ha1 ha2 ha3 ha4 ha5
                            have ha0 := HB6.out.a0
                            have ha1 := HB6.out.a1
                            have ha2 := HB6.out.a2
                            have ha3 := HB6.out.a3
                            have ha4 := HB6.out.a4
                            have ha5 := HB6.out.a5
                            replace hg0 := cell_drawn hdr hg0
                            replace hg1 := cell_drawn hdr hg1
                            replace hg2 := cell_drawn hdr hg2
                            replace hg3 := cell_drawn hdr hg3
                            replace hg4 := cell_drawn hdr hg4
                            replace hg5 := cell_drawn hdr hg5
                            replace hg6 := cell_drawn hdr hg6
                            clear hdr
                            cases f5 with
                            | false =>
                              have HX := Aside0.mk (HFAIL.out (by simp))
                              go_wp2
                              go_ret
                              exact ⟨by rw [HX.out]; rfl, HB6.out.bel⟩
                            | true =>
                              have HY := Aside0.mk (HSN.out (by simp))
                              go_wp2
                              go_roundw
                              case rel => exact ⟨x + 1, by omega, by omega, by go_num, HY, HB6⟩
                              case measure => simp [intOf]; omega
                · obtain rfl : x = (n1 : Int) := by omega
                  have hd : decide ((n1 : Int) < (n1 : Int)) = false := decide_eq_false (by omega)
                  have HA1 := Aside0.mk (all_end68 HN1.out HT.out)
                  clear HT hx0 hx1 hlt
                  go_wp2_with fail
                  clear hd
                  clear ha0 ha1 ha2 ha3 ha4 ha5
                  have HX0 := HX
                  clear HX
                  go_loopw [6] (fun v wr => ∃ i : Nat, i ≤ 2 ∧ v = .int .i64 i ∧ Aside0 ((1 ≤ i → q0 = true ∧ x2.all okW = true) ∧ (2 ≤ i → q1 = true ∧ x3.all okW = true)) ∧ Aside0 (SB w wr (.slice A0 n0 c0) (.slice A1 n1 c1) (.int .i64 l0) (.slice A2 n2 c2) (.int .i64 l1) (.slice A3 n3 c3))) (fun v _ => 2 - (intOf v).toNat)
                  case atStart => exact ⟨0, by omega, rfl, ⟨fun h => absurd h (by decide), fun h => absurd h (by decide)⟩, HX0⟩
                  case round =>
                    obtain ⟨i, hi, rfl, HZ, HX⟩ := hrel
                    match i, hi with
                    | 0, _ =>
                      have ha0 := HX.out.a0
                      have ha1 := HX.out.a1
                      have ha2 := HX.out.a2
                      have ha3 := HX.out.a3
                      have ha4 := HX.out.a4
                      have ha5 := HX.out.a5
                      go_wp2_with fail
                      refine (HL0.out _).mono ?_
                      rintro e wb ⟨rfl, hdr⟩
                      have HX3 := Aside0.mk (HX.out.drawn hdr)
                      clear ha0 ha1 ha2 ha3 ha4 ha5
                      have ha0 := HX3.out.a0
                      have ha1 := HX3.out.a1
                      have ha2 := HX3.out.a2
                      have ha3 := HX3.out.a3
                      have ha4 := HX3.out.a4
                      have ha5 := HX3.out.a5
                      clear hdr HX
                      cases hq0 : q0 with
                      | false =>
                        have HF : Aside0 (r = false) := ⟨by rw [HR.out, hq0]; simp⟩
                        go_wp2
                        go_ret
                        exact ⟨by rw [HF.out]; rfl, HX3.out.bel⟩
                      | true =>
                        have HQ := Aside0.mk hq0
                        go_wp2_with fail
                        clear ha0 ha1 ha2 ha3 ha4 ha5
                        go_loopw [7] (fun v wr => ∃ x : Int, 0 ≤ x ∧ x ≤ n2 ∧ v = .int .i64 x ∧ Aside0 ((x2.take x.toNat).all okW = true) ∧ Aside0 (SB w wr (.slice A0 n0 c0) (.slice A1 n1 c1) (.int .i64 l0) (.slice A2 n2 c2) (.int .i64 l1) (.slice A3 n3 c3))) (fun v _ => n2 - (intOf v).toNat)
                        case atStart => exact ⟨0, by omega, by omega, rfl, ⟨rfl⟩, HX3⟩
                        case round =>
                          obtain ⟨x, hx0, hx1, rfl, HT, HX⟩ := hrel
                          have ha0 := HX.out.a0
                          have ha1 := HX.out.a1
                          have ha2 := HX.out.a2
                          have ha3 := HX.out.a3
                          have ha4 := HX.out.a4
                          have ha5 := HX.out.a5
                          by_cases hlt : x < n2
                          · have hd : decide (x < (n2 : Int)) = true := decide_eq_true hlt
                            obtain ⟨ad, e1, he0, he1, he2⟩ := at_T72 HC2.out x hx0 hlt
                            cases e1
                            replace he0 := pw_cell_below HX.out.bel he0
                            replace he1 := pw_cell_below HX.out.bel he1
                            replace he2 := pw_cell_below HX.out.bel he2
                            have hsn := all_succ72 x2 (x := x) hx0 (by rw [HN2.out]; exact hlt) HT.out
                            have hfl := all_fail72 x2 (x := x) hx0 (by rw [HN2.out]; exact hlt)
                            generalize rd_T72 x2 x = y at *
                            rw [show okW y = (fitB y.f0 && (fitB y.f1 && fitB y.f2)) from rfl] at hsn hfl
                            generalize y.f0 = y0 at *
                            generalize y.f1 = y1 at *
                            generalize y.f2 = y2 at *
                            have HF0 := Aside0.mk (word_calls y0)
                            generalize fitB y0 = f0 at *
                            have HF1 := Aside0.mk (word_calls y1)
                            generalize fitB y1 = f1 at *
                            have HF2 := Aside0.mk (word_calls y2)
                            generalize fitB y2 = f2 at *
                            have HSN := Aside0.mk hsn
                            have HFAIL : Aside0 ((f0 && (f1 && f2)) = false → r = false) := ⟨fun h => by rw [HR.out, hfl h]; simp⟩
                            clear hsn hfl
                            have p0 := eq_true hx0
                            have p1 := eq_true hlt
                            have HXa := Aside0.mk (HX.out.alloc (.cells #[.int .i64 y0, .int .i64 y1, .int .i64 y2] 72))
                            have HGa := Aside0.mk (blk_new wr (.cells #[.int .i64 y0, .int .i64 y1, .int .i64 y2] 72))
                            have hst : wr.heap.size < (wr.alloc (.cells #[.int .i64 y0, .int .i64 y1, .int .i64 y2] 72)).heap.size := by simp
                            go_upto_region 23 with fail
                            generalize hwa : wr.alloc (.cells #[.int .i64 y0, .int .i64 y1, .int .i64 y2] 72) = wa at *
                            clear hwa
                            clear ha0 ha1 ha2 ha3 ha4 ha5
                            have ha0 := HXa.out.a0
                            have ha1 := HXa.out.a1
                            have ha2 := HXa.out.a2
                            have ha3 := HXa.out.a3
                            have ha4 := HXa.out.a4
                            have ha5 := HXa.out.a5
                            have hg0 : wa.cell? ⟨wr.heap.size, 0, none⟩ = some (.int .i64 y0) := (blk_cell HGa.out 0).trans rfl
                            have hg1 : wa.cell? ⟨wr.heap.size, 1, none⟩ = some (.int .i64 y1) := (blk_cell HGa.out 1).trans rfl
                            have hg2 : wa.cell? ⟨wr.heap.size, 2, none⟩ = some (.int .i64 y2) := (blk_cell HGa.out 2).trans rfl
                            clear he0 he1 he2
                            go_wp2_with fail
                            refine (HF0.out _).mono ?_
                            rintro e wb1 ⟨rfl, hdr⟩
                            have HB1 := Aside0.mk (HXa.out.drawn hdr)
                            clear ha0 ha1 ha2 ha3 ha4 ha5
                            have ha0 := HB1.out.a0
                            have ha1 := HB1.out.a1
                            have ha2 := HB1.out.a2
                            have ha3 := HB1.out.a3
                            have ha4 := HB1.out.a4
                            have ha5 := HB1.out.a5
                            replace hg0 := cell_drawn hdr hg0
                            replace hg1 := cell_drawn hdr hg1
                            replace hg2 := cell_drawn hdr hg2
                            clear hdr
                            cases f0 with
                            | false =>
                              have HX := Aside0.mk (HFAIL.out (by simp))
                              go_wp2
                              go_ret
                              exact ⟨by rw [HX.out]; rfl, HB1.out.bel⟩
                            | true =>
                              go_wp2_with fail
                              refine (HF1.out _).mono ?_
                              rintro e wb2 ⟨rfl, hdr⟩
                              have HB2 := Aside0.mk (HB1.out.drawn hdr)
                              clear ha0 ha1 ha2 ha3 ha4 ha5
                              have ha0 := HB2.out.a0
                              have ha1 := HB2.out.a1
                              have ha2 := HB2.out.a2
                              have ha3 := HB2.out.a3
                              have ha4 := HB2.out.a4
                              have ha5 := HB2.out.a5
                              replace hg0 := cell_drawn hdr hg0
                              replace hg1 := cell_drawn hdr hg1
                              replace hg2 := cell_drawn hdr hg2
                              clear hdr
                              cases f1 with
                              | false =>
                                have HX := Aside0.mk (HFAIL.out (by simp))
                                go_wp2
                                go_ret
                                exact ⟨by rw [HX.out]; rfl, HB2.out.bel⟩
                              | true =>
                                go_wp2_with fail
                                refine (HF2.out _).mono ?_
                                rintro e wb3 ⟨rfl, hdr⟩
                                have HB3 := Aside0.mk (HB2.out.drawn hdr)
                                clear ha0 ha1 ha2 ha3 ha4 ha5
                                have ha0 := HB3.out.a0
                                have ha1 := HB3.out.a1
                                have ha2 := HB3.out.a2
                                have ha3 := HB3.out.a3
                                have ha4 := HB3.out.a4
                                have ha5 := HB3.out.a5
                                replace hg0 := cell_drawn hdr hg0
                                replace hg1 := cell_drawn hdr hg1
                                replace hg2 := cell_drawn hdr hg2
                                clear hdr
                                cases f2 with
                                | false =>
                                  have HX := Aside0.mk (HFAIL.out (by simp))
                                  go_wp2
                                  go_ret
                                  exact ⟨by rw [HX.out]; rfl, HB3.out.bel⟩
                                | true =>
                                  have HY := Aside0.mk (HSN.out (by simp))
                                  go_wp2
                                  go_roundw
                                  case rel => exact ⟨x + 1, by omega, by omega, by go_num, HY, HB3⟩
                                  case measure => simp [intOf]; omega
                          · obtain rfl : x = (n2 : Int) := by omega
                            have hd : decide ((n2 : Int) < (n2 : Int)) = false := decide_eq_false (by omega)
                            have HA2 := Aside0.mk (all_end72 HN2.out HT.out)
                            clear HT hx0 hx1 hlt
                            go_wp2
                            go_roundw
                            case rel => exact ⟨1, by omega, by go_num, ⟨fun _ => ⟨HQ.out, HA2.out⟩, fun h => absurd h (by decide)⟩, HX⟩
                            case measure => simp [intOf]
                    | 1, _ =>
                      have ha0 := HX.out.a0
                      have ha1 := HX.out.a1
                      have ha2 := HX.out.a2
                      have ha3 := HX.out.a3
                      have ha4 := HX.out.a4
                      have ha5 := HX.out.a5
                      go_wp2_with fail
                      refine (HL1.out _).mono ?_
                      rintro e wb ⟨rfl, hdr⟩
                      have HX3 := Aside0.mk (HX.out.drawn hdr)
                      clear ha0 ha1 ha2 ha3 ha4 ha5
                      have ha0 := HX3.out.a0
                      have ha1 := HX3.out.a1
                      have ha2 := HX3.out.a2
                      have ha3 := HX3.out.a3
                      have ha4 := HX3.out.a4
                      have ha5 := HX3.out.a5
                      clear hdr HX
                      cases hq1 : q1 with
                      | false =>
                        have HF : Aside0 (r = false) := ⟨by rw [HR.out, hq1]; simp⟩
                        go_wp2
                        go_ret
                        exact ⟨by rw [HF.out]; rfl, HX3.out.bel⟩
                      | true =>
                        have HQ := Aside0.mk hq1
                        go_wp2_with fail
                        clear ha0 ha1 ha2 ha3 ha4 ha5
                        go_loopw [7] (fun v wr => ∃ x : Int, 0 ≤ x ∧ x ≤ n3 ∧ v = .int .i64 x ∧ Aside0 ((x3.take x.toNat).all okW = true) ∧ Aside0 (SB w wr (.slice A0 n0 c0) (.slice A1 n1 c1) (.int .i64 l0) (.slice A2 n2 c2) (.int .i64 l1) (.slice A3 n3 c3))) (fun v _ => n3 - (intOf v).toNat)
                        case atStart => exact ⟨0, by omega, by omega, rfl, ⟨rfl⟩, HX3⟩
                        case round =>
                          obtain ⟨x, hx0, hx1, rfl, HT, HX⟩ := hrel
                          have ha0 := HX.out.a0
                          have ha1 := HX.out.a1
                          have ha2 := HX.out.a2
                          have ha3 := HX.out.a3
                          have ha4 := HX.out.a4
                          have ha5 := HX.out.a5
                          by_cases hlt : x < n3
                          · have hd : decide (x < (n3 : Int)) = true := decide_eq_true hlt
                            obtain ⟨ad, e1, he0, he1, he2⟩ := at_T72 HC3.out x hx0 hlt
                            cases e1
                            replace he0 := pw_cell_below HX.out.bel he0
                            replace he1 := pw_cell_below HX.out.bel he1
                            replace he2 := pw_cell_below HX.out.bel he2
                            have hsn := all_succ72 x3 (x := x) hx0 (by rw [HN3.out]; exact hlt) HT.out
                            have hfl := all_fail72 x3 (x := x) hx0 (by rw [HN3.out]; exact hlt)
                            generalize rd_T72 x3 x = y at *
                            rw [show okW y = (fitB y.f0 && (fitB y.f1 && fitB y.f2)) from rfl] at hsn hfl
                            generalize y.f0 = y0 at *
                            generalize y.f1 = y1 at *
                            generalize y.f2 = y2 at *
                            have HF0 := Aside0.mk (word_calls y0)
                            generalize fitB y0 = f0 at *
                            have HF1 := Aside0.mk (word_calls y1)
                            generalize fitB y1 = f1 at *
                            have HF2 := Aside0.mk (word_calls y2)
                            generalize fitB y2 = f2 at *
                            have HSN := Aside0.mk hsn
                            have HFAIL : Aside0 ((f0 && (f1 && f2)) = false → r = false) := ⟨fun h => by rw [HR.out, hfl h]; simp⟩
                            clear hsn hfl
                            have p0 := eq_true hx0
                            have p1 := eq_true hlt
                            have HXa := Aside0.mk (HX.out.alloc (.cells #[.int .i64 y0, .int .i64 y1, .int .i64 y2] 72))
                            have HGa := Aside0.mk (blk_new wr (.cells #[.int .i64 y0, .int .i64 y1, .int .i64 y2] 72))
                            have hst : wr.heap.size < (wr.alloc (.cells #[.int .i64 y0, .int .i64 y1, .int .i64 y2] 72)).heap.size := by simp
                            go_upto_region 23 with fail
                            generalize hwa : wr.alloc (.cells #[.int .i64 y0, .int .i64 y1, .int .i64 y2] 72) = wa at *
                            clear hwa
                            clear ha0 ha1 ha2 ha3 ha4 ha5
                            have ha0 := HXa.out.a0
                            have ha1 := HXa.out.a1
                            have ha2 := HXa.out.a2
                            have ha3 := HXa.out.a3
                            have ha4 := HXa.out.a4
                            have ha5 := HXa.out.a5
                            have hg0 : wa.cell? ⟨wr.heap.size, 0, none⟩ = some (.int .i64 y0) := (blk_cell HGa.out 0).trans rfl
                            have hg1 : wa.cell? ⟨wr.heap.size, 1, none⟩ = some (.int .i64 y1) := (blk_cell HGa.out 1).trans rfl
                            have hg2 : wa.cell? ⟨wr.heap.size, 2, none⟩ = some (.int .i64 y2) := (blk_cell HGa.out 2).trans rfl
                            clear he0 he1 he2
                            go_wp2_with fail
                            refine (HF0.out _).mono ?_
                            rintro e wb1 ⟨rfl, hdr⟩
                            have HB1 := Aside0.mk (HXa.out.drawn hdr)
                            clear ha0 ha1 ha2 ha3 ha4 ha5
                            have ha0 := HB1.out.a0
                            have ha1 := HB1.out.a1
                            have ha2 := HB1.out.a2
                            have ha3 := HB1.out.a3
                            have ha4 := HB1.out.a4
                            have ha5 := HB1.out.a5
                            replace hg0 := cell_drawn hdr hg0
                            replace hg1 := cell_drawn hdr hg1
                            replace hg2 := cell_drawn hdr hg2
                            clear hdr
                            cases f0 with
                            | false =>
                              have HX := Aside0.mk (HFAIL.out (by simp))
                              go_wp2
                              go_ret
                              exact ⟨by rw [HX.out]; rfl, HB1.out.bel⟩
                            | true =>
                              go_wp2_with fail
                              refine (HF1.out _).mono ?_
                              rintro e wb2 ⟨rfl, hdr⟩
                              have HB2 := Aside0.mk (HB1.out.drawn hdr)
                              clear ha0 ha1 ha2 ha3 ha4 ha5
                              have ha0 := HB2.out.a0
                              have ha1 := HB2.out.a1
                              have ha2 := HB2.out.a2
                              have ha3 := HB2.out.a3
                              have ha4 := HB2.out.a4
                              have ha5 := HB2.out.a5
                              replace hg0 := cell_drawn hdr hg0
                              replace hg1 := cell_drawn hdr hg1
                              replace hg2 := cell_drawn hdr hg2
                              clear hdr
                              cases f1 with
                              | false =>
                                have HX := Aside0.mk (HFAIL.out (by simp))
                                go_wp2
                                go_ret
                                exact ⟨by rw [HX.out]; rfl, HB2.out.bel⟩
                              | true =>
                                go_wp2_with fail
                                refine (HF2.out _).mono ?_
                                rintro e wb3 ⟨rfl, hdr⟩
                                have HB3 := Aside0.mk (HB2.out.drawn hdr)
                                clear ha0 ha1 ha2 ha3 ha4 ha5
                                have ha0 := HB3.out.a0
                                have ha1 := HB3.out.a1
                                have ha2 := HB3.out.a2
                                have ha3 := HB3.out.a3
                                have ha4 := HB3.out.a4
                                have ha5 := HB3.out.a5
                                replace hg0 := cell_drawn hdr hg0
                                replace hg1 := cell_drawn hdr hg1
                                replace hg2 := cell_drawn hdr hg2
                                clear hdr
                                cases f2 with
                                | false =>
                                  have HX := Aside0.mk (HFAIL.out (by simp))
                                  go_wp2
                                  go_ret
                                  exact ⟨by rw [HX.out]; rfl, HB3.out.bel⟩
                                | true =>
                                  have HY := Aside0.mk (HSN.out (by simp))
                                  go_wp2
                                  go_roundw
                                  case rel => exact ⟨x + 1, by omega, by omega, by go_num, HY, HB3⟩
                                  case measure => simp [intOf]; omega
                          · obtain rfl : x = (n3 : Int) := by omega
                            have hd : decide ((n3 : Int) < (n3 : Int)) = false := decide_eq_false (by omega)
                            have HA3 := Aside0.mk (all_end72 HN3.out HT.out)
                            clear HT hx0 hx1 hlt
                            go_wp2
                            go_roundw
                            case rel => exact ⟨2, by omega, by go_num, ⟨fun _ => HZ.out.1 (by decide), fun _ => ⟨HQ.out, HA3.out⟩⟩, HX⟩
                            case measure => simp [intOf]
                    | 2, _ =>
                      have HF : Aside0 (r = true) := ⟨by rw [HR.out, (HZ.out.1 (by decide)).1, (HZ.out.1 (by decide)).2, (HZ.out.2 (by decide)).1, (HZ.out.2 (by decide)).2, HA0.out, HA1.out]; rfl⟩
                      go_wp2
                      go_ret
                      exact ⟨by rw [HF.out]; rfl, HX.out.bel⟩
end Go.Proofs.Ytbpmmabdjabfcaa.Table
