import Derived.Test.YtbpmmabdjabfcaaScriptRefSame
/- Package script: Same tells whether two jobs are the same. Written by wip/scriptsamep.py. -/
namespace Go.Proofs.Ytbpmmabdjabfcaa.Script
open Go.RowKit Go.Proofs.YtbpmmabdjabfcaaW.PrintWords Go.Proofs.YtbpmmabdjabfcaaW.PrintLast Go.Proofs.YtbpmmabdjabfcaaW.PrintMore Go.Proofs.Ytbpmmabdjabfcaa.Box Go.Proofs.Ytbpmmabdjabfcaa.PT Go.Proofs.Ytbpmmabdjabfcaa.Table
set_option linter.unusedSimpArgs false
set_option linter.unusedVariables false
/-! ### alike -/
set_option maxRecDepth 20000 in
set_option maxHeartbeats 4000000 in
theorem alike_calls (x y : Req) (A : Option Addr) (c : Nat) (B : Option Addr) (d : Nat) (w : World) (ha : Kd.C (Kd.int .u32) w A x.data.length x.data) (hb : Kd.C (Kd.int .u32) w B y.data.length y.data) (hn : x.data.length ≤ 9223372036854775807) :
    Calls Try.prog 66 #[.agg #[.int .i64 x.op, .int .i64 x.port, .int .u64 x.addr, .slice A x.data.length c], .agg #[.int .i64 y.op, .int .i64 y.port, .int .u64 y.addr, .slice B y.data.length d]] w fun e w' => e = .returned (.bool (decide (x = y))) ∧ Below w.heap.size w w' := by
  have hdd : decide (x = y) = (decide (x.op = y.op) && (decide (x.port = y.port) && (decide (x.addr = y.addr) && decide (x.data = y.data)))) := by
    have h : decide (x = y) = decide (x.op = y.op ∧ x.port = y.port ∧ x.addr = y.addr ∧ x.data = y.data) := by rw [decide_eq_decide]; exact (req_eq x y).symm
    rw [h]
    simp only [Bool.decide_and]
  rw [hdd]
  obtain ⟨dd, hd⟩ : ∃ t, decide (x.data = y.data) = t := ⟨_, rfl⟩
  have hw1 := below_alloc (below_alloc (Below.refl _ w) (.cells #[.int .i64 x.op, .int .i64 x.port, .int .u64 x.addr, .slice A x.data.length c] 90)) (.cells #[.int .i64 y.op, .int .i64 y.port, .int .u64 y.addr, .slice B y.data.length d] 90)
  have hc := fun (X : World) (hX : Below w.heap.size w X) => eq_words A c x.data B d y.data X (Kd.C_below ha hX) (Kd.C_below hb hX) hn
  rw [hd] at hc ⊢
  clear hd hdd ha hb hn
  generalize x.op = xo at *
  generalize x.port = xp at *
  generalize x.addr = xa at *
  generalize x.data.length = xl at *
  generalize y.op = yo at *
  generalize y.port = yp at *
  generalize y.addr = ya at *
  generalize y.data.length = yl at *
  have HC := Aside0.mk hc
  have HW := Aside0.mk hw1
  clear hc hw1
  by_cases g0 : xo = yo
  · by_cases g1 : xp = yp
    · by_cases g2 : xa = ya
      · have e0 : (xo == yo) = true := by simp [g0]
        have e1 : (xp == yp) = true := by simp [g1]
        have e2 : (xa == ya) = true := by simp [g2]
        rw [decide_eq_true g0, decide_eq_true g1, decide_eq_true g2]
        clear g0 g1 g2
        go_enter Try.func66, Try.ntmps66
        go_wp2_with fail
        refine (HC.out _ HW.out).mono ?_
        rintro e w3 ⟨rfl, hbw⟩
        have HB := Aside0.mk (HW.out.trans (hbw.mono HW.out.size))
        clear hbw HW HC
        go_wp2
        go_ret
        exact ⟨rfl, HB.out⟩
      · have e0 : (xo == yo) = true := by simp [g0]
        have e1 : (xp == yp) = true := by simp [g1]
        have e2 : (xa == ya) = false := by simp [g2]
        rw [decide_eq_true g0, decide_eq_true g1, decide_eq_false g2]
        clear g0 g1 g2
        go_enter Try.func66, Try.ntmps66
        go_wp2
        go_ret
        exact ⟨rfl, HW.out⟩
    · have e0 : (xo == yo) = true := by simp [g0]
      have e1 : (xp == yp) = false := by simp [g1]
      rw [decide_eq_true g0, decide_eq_false g1]
      clear g0 g1
      go_enter Try.func66, Try.ntmps66
      go_wp2
      go_ret
      exact ⟨rfl, HW.out⟩
  · have e0 : (xo == yo) = false := by simp [g0]
    rw [decide_eq_false g0]
    clear g0
    go_enter Try.func66, Try.ntmps66
    go_wp2
    go_ret
    exact ⟨rfl, HW.out⟩
/-! ### lists of requests -/
set_option maxRecDepth 20000 in
set_option maxHeartbeats 4000000 in
theorem eq_reqs (A : Option Addr) (c : Nat) (la : List Req) (B : Option Addr) (d : Nat) (lb : List Req) (w : World) (ha : Kd.C k90 w A la.length la) (hb : Kd.C k90 w B lb.length lb) (hn : la.length ≤ 9223372036854775807) (hm : ∀ q ∈ la, q.data.length ≤ 9223372036854775807) :
    Calls Try.prog 65 #[.slice A la.length c, .slice B lb.length d, .func (.func 66) #[] #[]] w fun e w' => e = .returned (.bool (decide (la = lb))) ∧ Below w.heap.size w w' := by
  obtain ⟨r, hr⟩ : ∃ r, decide (la = lb) = r := ⟨_, rfl⟩
  have HR : Aside0 ((la ≠ lb → r = false) ∧ (la = lb → r = true)) := ⟨fun h => by rw [← hr]; exact decide_eq_false h, fun h => by rw [← hr]; exact decide_eq_true h⟩
  rw [hr]
  obtain ⟨p, hp⟩ : ∃ n, la.length = n := ⟨_, rfl⟩
  obtain ⟨q, hq⟩ : ∃ n, lb.length = n := ⟨_, rfl⟩
  have HPQ := Aside0.mk (And.intro hp hq)
  have HM := Aside0.mk hm
  rw [hp] at ha hn ⊢
  rw [hq] at hb ⊢
  have HA := Aside0.mk ha
  have HB := Aside0.mk hb
  have HW := Aside0.mk (Below.refl w.heap.size w)
  clear hr hp hq ha hb hm
  by_cases g : p = q
  · subst g
    have q0 : ((p : Int) != (p : Int)) = false := by simp
    go_enter Try.func65, Try.ntmps65
    go_wp2_with fail
    clear q0
    go_loopw [17] (fun v wr => ∃ x : Int, 0 ≤ x ∧ x ≤ p ∧ v = .int .i64 x ∧ Aside0 (la.take x.toNat = lb.take x.toNat) ∧ Aside0 (Below w.heap.size w wr)) (fun v _ => p - (intOf v).toNat)
    case atStart => exact ⟨0, by omega, by omega, rfl, ⟨rfl⟩, HW⟩
    case round =>
      clear HW
      obtain ⟨x, hx0, hx1, rfl, HT, HX⟩ := hrel
      by_cases hlt : x < p
      · have hd : decide (x < (p : Int)) = true := decide_eq_true hlt
        obtain ⟨ud, D, cD, e1, hu0, hu1, hu2, hu3, hlD, hrD⟩ := at_Q HA.out x hx0 hlt
        cases e1
        obtain ⟨vd, E, cE, e2, hv0, hv1, hv2, hv3, hlE, hrE⟩ := at_Q HB.out x hx0 hlt
        cases e2
        have hix : x.toNat < la.length := by rw [HPQ.out.1]; omega
        have hmem : rdQ la x ∈ la := by
          unfold rdQ
          rw [List.getD_eq_getElem?_getD, List.getElem?_eq_getElem hix]
          exact List.getElem_mem hix
        have hdl := HM.out _ hmem
        have HS : Aside0 (rdQ la x = rdQ lb x → la.take (x + 1).toNat = lb.take (x + 1).toNat) := ⟨take_succ_of zreq la lb hx0 (by rw [HPQ.out.1]; exact hlt) (by rw [HPQ.out.2]; exact hlt) HT.out⟩
        have HNE : Aside0 (rdQ la x ≠ rdQ lb x → r = false) := ⟨fun h => HR.out.1 (fun e => h (by rw [e]))⟩
        have hrs := fun (X : World) (hX : Below w.heap.size w X) => alike_calls (rdQ la x) (rdQ lb x) D cD E cE X (Kd.C_below hrD hX) (Kd.C_below hrE hX) hdl
        have HUV := Aside0.mk (And.intro hv0 (And.intro hv1 (And.intro hv2 hv3)))
        have hu0 := pw_cell_below HX.out hu0
        have hu1 := pw_cell_below HX.out hu1
        have hu2 := pw_cell_below HX.out hu2
        have hu3 := pw_cell_below HX.out hu3
        clear hv0 hv1 hv2 hv3 hlD hrD hlE hrE hix hmem hdl HT
        generalize rdQ la x = u at *
        generalize rdQ lb x = v at *
        have p0 := eq_true hx0
        have p1 := eq_true hlt
        obtain ⟨t, ht⟩ : ∃ t, decide (u = v) = t := ⟨_, rfl⟩
        have HY : Aside0 ((t = true → la.take (x + 1).toNat = lb.take (x + 1).toNat) ∧ (t = false → r = false)) := ⟨fun h => HS.out (of_decide_eq_true (ht.trans h)), fun h => HNE.out (of_decide_eq_false (ht.trans h))⟩
        rw [ht] at hrs
        have HRS := Aside0.mk hrs
        clear ht hrs HS HNE
        go_upto_region 6 with fail
        have HB1 := Aside0.mk (below_alloc HX.out (.cells #[.int .i64 u.op, .int .i64 u.port, .int .u64 u.addr, .slice D u.data.length cD] 90))
        have HG1 := Aside0.mk (blk_new wr (.cells #[.int .i64 u.op, .int .i64 u.port, .int .u64 u.addr, .slice D u.data.length cD] 90))
        generalize wr.alloc (.cells #[.int .i64 u.op, .int .i64 u.port, .int .u64 u.addr, .slice D u.data.length cD] 90) = w1 at *
        generalize wr.heap.size = g1 at *
        clear hu0 hu1 hu2 hu3 HX
        have hv0 := pw_cell_below HB1.out HUV.out.1
        have hv1 := pw_cell_below HB1.out HUV.out.2.1
        have hv2 := pw_cell_below HB1.out HUV.out.2.2.1
        have hv3 := pw_cell_below HB1.out HUV.out.2.2.2
        go_upto_region 7 with fail
        clear hv0 hv1 hv2 hv3
        have HB2 := Aside0.mk (below_alloc HB1.out (.cells #[.int .i64 v.op, .int .i64 v.port, .int .u64 v.addr, .slice E v.data.length cE] 90))
        have HG2 := Aside0.mk (blk_new w1 (.cells #[.int .i64 v.op, .int .i64 v.port, .int .u64 v.addr, .slice E v.data.length cE] 90))
        have HG3 := Aside0.mk (blk_alloc HG1.out (.cells #[.int .i64 v.op, .int .i64 v.port, .int .u64 v.addr, .slice E v.data.length cE] 90))
        generalize w1.alloc (.cells #[.int .i64 v.op, .int .i64 v.port, .int .u64 v.addr, .slice E v.data.length cE] 90) = w2 at *
        generalize w1.heap.size = g2 at *
        have hu0 := (blk_cell HG3.out 0).trans rfl
        have hu1 := (blk_cell HG3.out 1).trans rfl
        have hu2 := (blk_cell HG3.out 2).trans rfl
        have hu3 := (blk_cell HG3.out 3).trans rfl
        have hv0 := (blk_cell HG2.out 0).trans rfl
        have hv1 := (blk_cell HG2.out 1).trans rfl
        have hv2 := (blk_cell HG2.out 2).trans rfl
        have hv3 := (blk_cell HG2.out 3).trans rfl
        clear HB1 HG1
        go_wp2_with fail
        refine (HRS.out _ HB2.out).mono ?_
        rintro e w3 ⟨rfl, hbw⟩
        have HB3 := Aside0.mk (HB2.out.trans (hbw.mono HB2.out.size))
        clear hbw HB2 HG2 HG3 HRS hu0 hu1 hu2 hu3 hv0 hv1 hv2 hv3
        cases t with
        | true =>
          have HY2 := Aside0.mk (HY.out.1 rfl)
          clear HY
          go_wp2
          go_roundw
          case rel => exact ⟨x + 1, by omega, by omega, by go_num, HY2, HB3⟩
          case measure => simp [intOf]; omega
        | false =>
          have HF := Aside0.mk (HY.out.2 rfl)
          clear HY
          go_wp2
          go_ret
          exact ⟨by rw [HF.out]; rfl, HB3.out⟩
      · obtain rfl : x = (p : Int) := by omega
        have hd : decide ((p : Int) < (p : Int)) = false := decide_eq_false (by omega)
        have HF := Aside0.mk (HR.out.2 (take_all_of HPQ.out.1 HPQ.out.2 HT.out))
        clear HT hx0 hx1 hlt
        go_wp2
        go_ret
        exact ⟨by rw [HF.out]; rfl, HX.out⟩
  · have q0 : ((p : Int) != (q : Int)) = true := by simp; omega
    have HF : Aside0 (r = false) := ⟨HR.out.1 (fun e => g (by rw [← HPQ.out.1, ← HPQ.out.2, e]))⟩
    clear g
    go_enter Try.func65, Try.ntmps65
    go_wp2
    go_ret
    exact ⟨by rw [HF.out]; rfl, HW.out⟩
/-! ### streams -/
theorem row_calls (A : Option Addr) (c : Nat) (la : List Req) (B : Option Addr) (d : Nat) (lb : List Req) (w : World) (ha : Kd.C k90 w A la.length la) (hb : Kd.C k90 w B lb.length lb) (hn : la.length ≤ 9223372036854775807) (hm : ∀ q ∈ la, q.data.length ≤ 9223372036854775807) :
    Calls Try.prog 64 #[.slice A la.length c, .slice B lb.length d] w fun e w' => e = .returned (.bool (decide (la = lb))) ∧ Below w.heap.size w w' := by
  have HC := Aside0.mk (eq_reqs A c la B d lb w ha hb hn hm)
  generalize decide (la = lb) = t at *
  generalize la.length = p at *
  generalize lb.length = q at *
  clear ha hb hn hm
  go_enter Try.func64, Try.ntmps64
  go_wp2_with fail
  refine HC.out.mono ?_
  rintro e w3 ⟨rfl, hbw⟩
  have HB := Aside0.mk hbw
  clear hbw HC
  go_wp2
  go_ret
  exact ⟨rfl, HB.out⟩
set_option maxRecDepth 20000 in
set_option maxHeartbeats 4000000 in
theorem eq_streams (A : Option Addr) (c : Nat) (la : List (List Req)) (B : Option Addr) (d : Nat) (lb : List (List Req)) (w : World) (ha : Kd.C kL w A la.length la) (hb : Kd.C kL w B lb.length lb) (hn : la.length ≤ 9223372036854775807) (hm : ∀ l ∈ la, l.length ≤ 9223372036854775807) (hm2 : ∀ l ∈ la, ∀ q ∈ l, q.data.length ≤ 9223372036854775807) :
    Calls Try.prog 63 #[.slice A la.length c, .slice B lb.length d, .func (.func 64) #[] #[]] w fun e w' => e = .returned (.bool (decide (la = lb))) ∧ Below w.heap.size w w' := by
  obtain ⟨r, hr⟩ : ∃ r, decide (la = lb) = r := ⟨_, rfl⟩
  have HR : Aside0 ((la ≠ lb → r = false) ∧ (la = lb → r = true)) := ⟨fun h => by rw [← hr]; exact decide_eq_false h, fun h => by rw [← hr]; exact decide_eq_true h⟩
  rw [hr]
  obtain ⟨p, hp⟩ : ∃ n, la.length = n := ⟨_, rfl⟩
  obtain ⟨q, hq⟩ : ∃ n, lb.length = n := ⟨_, rfl⟩
  have HPQ := Aside0.mk (And.intro hp hq)
  have HM := Aside0.mk (And.intro hm hm2)
  rw [hp] at ha hn ⊢
  rw [hq] at hb ⊢
  have HA := Aside0.mk ha
  have HB := Aside0.mk hb
  have HW := Aside0.mk (Below.refl w.heap.size w)
  clear hr hp hq ha hb hm hm2
  by_cases g : p = q
  · subst g
    have q0 : ((p : Int) != (p : Int)) = false := by simp
    go_enter Try.func63, Try.ntmps63
    go_wp2_with fail
    clear q0
    go_loopw [17] (fun v wr => ∃ x : Int, 0 ≤ x ∧ x ≤ p ∧ v = .int .i64 x ∧ Aside0 (la.take x.toNat = lb.take x.toNat) ∧ Aside0 (Below w.heap.size w wr)) (fun v _ => p - (intOf v).toNat)
    case atStart => exact ⟨0, by omega, by omega, rfl, ⟨rfl⟩, HW⟩
    case round =>
      clear HW
      obtain ⟨x, hx0, hx1, rfl, HT, HX⟩ := hrel
      by_cases hlt : x < p
      · have hd : decide (x < (p : Int)) = true := decide_eq_true hlt
        obtain ⟨ud, D, cD, e1, hu, hlD, hrD⟩ := at_S HA.out x hx0 hlt
        cases e1
        obtain ⟨vd, E, cE, e2, hv, hlE, hrE⟩ := at_S HB.out x hx0 hlt
        cases e2
        have hix : x.toNat < la.length := by rw [HPQ.out.1]; omega
        have hmem : rdS la x ∈ la := by
          unfold rdS
          rw [List.getD_eq_getElem?_getD, List.getElem?_eq_getElem hix]
          exact List.getElem_mem hix
        have hdl := HM.out.1 _ hmem
        have hdm := HM.out.2 _ hmem
        have HS : Aside0 (rdS la x = rdS lb x → la.take (x + 1).toNat = lb.take (x + 1).toNat) := ⟨take_succ_of [] la lb hx0 (by rw [HPQ.out.1]; exact hlt) (by rw [HPQ.out.2]; exact hlt) HT.out⟩
        have HNE : Aside0 (rdS la x ≠ rdS lb x → r = false) := ⟨fun h => HR.out.1 (fun e => h (by rw [e]))⟩
        have hrs := row_calls D cD (rdS la x) E cE (rdS lb x) wr (Kd.C_below hrD HX.out) (Kd.C_below hrE HX.out) hdl hdm
        have hu := pw_cell_below HX.out hu
        have hv := pw_cell_below HX.out hv
        clear hlD hrD hlE hrE hix hmem hdl hdm HT
        generalize rdS la x = u at *
        generalize rdS lb x = v at *
        have p0 := eq_true hx0
        have p1 := eq_true hlt
        obtain ⟨t, ht⟩ : ∃ t, decide (u = v) = t := ⟨_, rfl⟩
        have HY : Aside0 ((t = true → la.take (x + 1).toNat = lb.take (x + 1).toNat) ∧ (t = false → r = false)) := ⟨fun h => HS.out (of_decide_eq_true (ht.trans h)), fun h => HNE.out (of_decide_eq_false (ht.trans h))⟩
        rw [ht] at hrs
        generalize u.length = ul at *
        generalize v.length = vl at *
        have HRS := Aside0.mk hrs
        clear ht hrs HS HNE
        go_wp2_with fail
        refine HRS.out.mono ?_
        rintro e w3 ⟨rfl, hbw⟩
        have HB3 := Aside0.mk (HX.out.trans (hbw.mono HX.out.size))
        clear hbw HX HRS hu hv
        cases t with
        | true =>
          have HY2 := Aside0.mk (HY.out.1 rfl)
          clear HY
          go_wp2
          go_roundw
          case rel => exact ⟨x + 1, by omega, by omega, by go_num, HY2, HB3⟩
          case measure => simp [intOf]; omega
        | false =>
          have HF := Aside0.mk (HY.out.2 rfl)
          clear HY
          go_wp2
          go_ret
          exact ⟨by rw [HF.out]; rfl, HB3.out⟩
      · obtain rfl : x = (p : Int) := by omega
        have hd : decide ((p : Int) < (p : Int)) = false := decide_eq_false (by omega)
        have HF := Aside0.mk (HR.out.2 (take_all_of HPQ.out.1 HPQ.out.2 HT.out))
        clear HT hx0 hx1 hlt
        go_wp2
        go_ret
        exact ⟨by rw [HF.out]; rfl, HX.out⟩
  · have q0 : ((p : Int) != (q : Int)) = true := by simp; omega
    have HF : Aside0 (r = false) := ⟨HR.out.1 (fun e => g (by rw [← HPQ.out.1, ← HPQ.out.2, e]))⟩
    clear g
    go_enter Try.func63, Try.ntmps63
    go_wp2
    go_ret
    exact ⟨by rw [HF.out]; rfl, HW.out⟩
/-! ### Same -/
set_option maxRecDepth 20000 in
set_option maxHeartbeats 4000000 in
theorem same_job {w : World} {a b : Job} {A0 : Option Addr} {cA0 : Nat} {A1 : Option Addr} {cA1 : Nat} {A2 : Option Addr} {cA2 : Nat} {A3 : Option Addr} {cA3 : Nat} {A4 : Option Addr} {cA4 : Nat} {A5 : Option Addr} {cA5 : Nat} {B0 : Option Addr} {cB0 : Nat} {B1 : Option Addr} {cB1 : Nat} {B2 : Option Addr} {cB2 : Nat} {B3 : Option Addr} {cB3 : Nat} {B4 : Option Addr} {cB4 : Nat} {B5 : Option Addr} {cB5 : Nat} (ha : IsJob w a A0 cA0 A1 cA1 A2 cA2 A3 cA3 A4 cA4 A5 cA5) (hb : IsJob w b B0 cB0 B1 cB1 B2 cB2 B3 cB3 B4 cB4 B5 cB5) (hs : ShortJ a) :
    Calls Try.prog 29 #[.agg #[.slice A0 a.cfg.ps.length cA0, .slice A1 a.cfg.xs.length cA1, .int .i64 a.cfg.l0, .slice A2 a.cfg.ws0.length cA2, .int .i64 a.cfg.l1, .slice A3 a.cfg.ws1.length cA3, .slice A4 a.streams.length cA4, .slice A5 a.acts.length cA5], .agg #[.slice B0 b.cfg.ps.length cB0, .slice B1 b.cfg.xs.length cB1, .int .i64 b.cfg.l0, .slice B2 b.cfg.ws0.length cB2, .int .i64 b.cfg.l1, .slice B3 b.cfg.ws1.length cB3, .slice B4 b.streams.length cB4, .slice B5 b.acts.length cB5]] w fun e w' => e = .returned (.bool (decide (a = b))) ∧ Below w.heap.size w w' := by
  have hdd : decide (a = b) = (decide (a.cfg = b.cfg) && (decide (a.acts = b.acts) && decide (a.streams = b.streams))) := by
    have h : decide (a = b) = decide (a.cfg = b.cfg ∧ a.acts = b.acts ∧ a.streams = b.streams) := by rw [decide_eq_decide]; exact (job_eq a b).symm
    rw [h]
    simp only [Bool.decide_and]
  rw [hdd]
  have HP := Aside0.mk (SJ.start w (.slice A0 a.cfg.ps.length cA0) (.slice A1 a.cfg.xs.length cA1) (.int .i64 a.cfg.l0) (.slice A2 a.cfg.ws0.length cA2) (.int .i64 a.cfg.l1) (.slice A3 a.cfg.ws1.length cA3) (.slice A4 a.streams.length cA4) (.slice A5 a.acts.length cA5) (.slice B0 b.cfg.ps.length cB0) (.slice B1 b.cfg.xs.length cB1) (.int .i64 b.cfg.l0) (.slice B2 b.cfg.ws0.length cB2) (.int .i64 b.cfg.l1) (.slice B3 b.cfg.ws1.length cB3) (.slice B4 b.streams.length cB4) (.slice B5 b.acts.length cB5))
  have hcc := fun (X : World) (hX : Below w.heap.size w X) => same_calls (isCfg_below ha.cfg hX) (isCfg_below hb.cfg hX) hs.cfg
  have hca := fun (X : World) (hX : Below w.heap.size w X) => eq_ints A5 cA5 a.acts B5 cB5 b.acts X (Kd.C_below ha.ac hX) (Kd.C_below hb.ac hX) hs.ac
  have hcs := fun (X : World) (hX : Below w.heap.size w X) => eq_streams A4 cA4 a.streams B4 cB4 b.streams X (Kd.C_below ha.st hX) (Kd.C_below hb.st hX) hs.st hs.rows hs.data
  generalize decide (a.cfg = b.cfg) = qc at *
  generalize decide (a.acts = b.acts) = qa at *
  generalize decide (a.streams = b.streams) = qs at *
  clear ha hb hs hdd
  generalize a.cfg.ps.length = n0 at *
  generalize a.cfg.xs.length = n1 at *
  generalize a.cfg.l0 = nl0 at *
  generalize a.cfg.ws0.length = n2 at *
  generalize a.cfg.l1 = nl1 at *
  generalize a.cfg.ws1.length = n3 at *
  generalize a.acts.length = n5 at *
  generalize a.streams.length = n4 at *
  generalize b.cfg.ps.length = m0 at *
  generalize b.cfg.xs.length = m1 at *
  generalize b.cfg.l0 = ml0 at *
  generalize b.cfg.ws0.length = m2 at *
  generalize b.cfg.l1 = ml1 at *
  generalize b.cfg.ws1.length = m3 at *
  generalize b.acts.length = m5 at *
  generalize b.streams.length = m4 at *
  have HCC := Aside0.mk hcc
  have HCA := Aside0.mk hca
  have HCS := Aside0.mk hcs
  clear hcc hca hcs
  go_enter Try.func29, Try.ntmps29
  go_upto_region 1 with fail
  generalize (w.alloc (.cells #[.slice A0 n0 cA0, .slice A1 n1 cA1, .int .i64 nl0, .slice A2 n2 cA2, .int .i64 nl1, .slice A3 n3 cA3, .slice A4 n4 cA4, .slice A5 n5 cA5] 48)).alloc (.cells #[.slice B0 m0 cB0, .slice B1 m1 cB1, .int .i64 ml0, .slice B2 m2 cB2, .int .i64 ml1, .slice B3 m3 cB3, .slice B4 m4 cB4, .slice B5 m5 cB5] 48) = w1 at *
  have ha0 := HP.out.a0
  have hb0 := HP.out.b0
  have ha1 := HP.out.a1
  have hb1 := HP.out.b1
  have ha2 := HP.out.a2
  have hb2 := HP.out.b2
  have ha3 := HP.out.a3
  have hb3 := HP.out.b3
  have ha4 := HP.out.a4
  have hb4 := HP.out.b4
  have ha5 := HP.out.a5
  have hb5 := HP.out.b5
  go_wp2_with fail
  clear ha0 hb0 ha1 hb1 ha2 hb2 ha3 hb3 ha4 hb4 ha5 hb5
  refine (HCC.out _ HP.out.bel).mono ?_
  rintro e w3 ⟨rfl, hbw⟩
  have HP3 := Aside0.mk (HP.out.to hbw)
  clear hbw HP HCC
  cases qc with
  | false =>
    go_wp2
    go_ret
    exact ⟨rfl, HP3.out.bel⟩
  | true =>
    have ha7 := HP3.out.a7
    have hb7 := HP3.out.b7
    go_wp2_with fail
    clear ha7 hb7
    refine (HCA.out _ HP3.out.bel).mono ?_
    rintro e w4 ⟨rfl, hbw⟩
    have HP4 := Aside0.mk (HP3.out.to hbw)
    clear hbw HP3 HCA
    cases qa with
    | false =>
      go_wp2
      go_ret
      exact ⟨rfl, HP4.out.bel⟩
    | true =>
      have ha6 := HP4.out.a6
      have hb6 := HP4.out.b6
      go_wp2_with fail
      clear ha6 hb6
      refine (HCS.out _ HP4.out.bel).mono ?_
      rintro e w5 ⟨rfl, hbw⟩
      have HP5 := Aside0.mk (HP4.out.to hbw)
      clear hbw HP4 HCS
      go_wp2
      go_ret
      exact ⟨rfl, HP5.out.bel⟩
end Go.Proofs.Ytbpmmabdjabfcaa.Script
