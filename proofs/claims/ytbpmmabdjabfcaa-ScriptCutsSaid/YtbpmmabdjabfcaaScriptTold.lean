import Derived.Test.YtbpmmabdjabfcaaScriptEq
import Derived.Test.YtbpmmabdjabfcaaTableTold
/- Package portholeref25: Great, Told; package script: told. Written by wip/scripttold.py. -/
namespace Go.Proofs.Ytbpmmabdjabfcaa.Script
open Go.RowKit Go.Proofs.YtbpmmabdjabfcaaW.PrintWords Go.Proofs.YtbpmmabdjabfcaaW.PrintLast Go.Proofs.YtbpmmabdjabfcaaW.PrintMore Go.Proofs.Ytbpmmabdjabfcaa.Box Go.Proofs.Ytbpmmabdjabfcaa.PT Go.Proofs.Ytbpmmabdjabfcaa.Table
set_option linter.unusedSimpArgs false
set_option linter.unusedVariables false
/-- A job in a box. -/
structure SK (w W : World) (x0 x1 x2 x3 x4 x5 x6 x7 : Value) : Prop where
  ba : W.heap[w.heap.size]? = some (.cells #[x0, x1, x2, x3, x4, x5, x6, x7] 48 (0, 0))
  bel : Below w.heap.size w W
section
variable {w W W' : World} {x0 x1 x2 x3 x4 x5 x6 x7 : Value}
theorem SK.start (w : World) (x0 x1 x2 x3 x4 x5 x6 x7 : Value) : SK w (w.alloc (.cells #[x0, x1, x2, x3, x4, x5, x6, x7] 48)) x0 x1 x2 x3 x4 x5 x6 x7 := ⟨blk_new w _, below_alloc (Below.refl _ w) _⟩
theorem SK.to (h : SK w W x0 x1 x2 x3 x4 x5 x6 x7) (hb : Below W.heap.size W W') : SK w W' x0 x1 x2 x3 x4 x5 x6 x7 := ⟨blk_below h.ba hb, h.bel.trans (hb.mono h.bel.size)⟩
theorem SK.drawn (h : SK w W x0 x1 x2 x3 x4 x5 x6 x7) (hd : Drawn0 W W') : SK w W' x0 x1 x2 x3 x4 x5 x6 x7 := h.to (below_drawn0 (Below.refl _ _) hd)
theorem SK.alloc (h : SK w W x0 x1 x2 x3 x4 x5 x6 x7) (o : Obj) : SK w (W.alloc o) x0 x1 x2 x3 x4 x5 x6 x7 := h.to (below_alloc (Below.refl _ _) _)
theorem SK.a0 (h : SK w W x0 x1 x2 x3 x4 x5 x6 x7) : W.cell? ⟨w.heap.size, 0, none⟩ = some x0 := (blk_cell h.ba 0).trans rfl
theorem SK.a1 (h : SK w W x0 x1 x2 x3 x4 x5 x6 x7) : W.cell? ⟨w.heap.size, 1, none⟩ = some x1 := (blk_cell h.ba 1).trans rfl
theorem SK.a2 (h : SK w W x0 x1 x2 x3 x4 x5 x6 x7) : W.cell? ⟨w.heap.size, 2, none⟩ = some x2 := (blk_cell h.ba 2).trans rfl
theorem SK.a3 (h : SK w W x0 x1 x2 x3 x4 x5 x6 x7) : W.cell? ⟨w.heap.size, 3, none⟩ = some x3 := (blk_cell h.ba 3).trans rfl
theorem SK.a4 (h : SK w W x0 x1 x2 x3 x4 x5 x6 x7) : W.cell? ⟨w.heap.size, 4, none⟩ = some x4 := (blk_cell h.ba 4).trans rfl
theorem SK.a5 (h : SK w W x0 x1 x2 x3 x4 x5 x6 x7) : W.cell? ⟨w.heap.size, 5, none⟩ = some x5 := (blk_cell h.ba 5).trans rfl
theorem SK.a6 (h : SK w W x0 x1 x2 x3 x4 x5 x6 x7) : W.cell? ⟨w.heap.size, 6, none⟩ = some x6 := (blk_cell h.ba 6).trans rfl
theorem SK.a7 (h : SK w W x0 x1 x2 x3 x4 x5 x6 x7) : W.cell? ⟨w.heap.size, 7, none⟩ = some x7 := (blk_cell h.ba 7).trans rfl
end
/-! ### what is told, in plain words -/
def okQ (q : Req) : Bool := fitB q.op && (fitB q.port && decide (q.data.length ≤ 64))
def okL (l : List Req) : Bool := decide (l.length ≤ 64) && l.all okQ
def toldP (j : Job) : Bool := (decide (j.streams.length ≤ 64) && decide (j.acts.length ≤ 4096)) && (j.acts.all fitB && j.streams.all okL)
def toldJ (j : Job) : Bool := toldB j.cfg && toldP j
theorem all_succ_of {α : Type} (z : α) (ok : α → Bool) (p : List α) {x : Int} (h0 : 0 ≤ x) (h1 : x < p.length) (ht : (p.take x.toNat).all ok = true) (hk : ok (p.getD x.toNat z) = true) : (p.take (x + 1).toNat).all ok = true := by
  have e : (x + 1).toNat = x.toNat + 1 := by omega
  have l1 : x.toNat < p.length := by omega
  rw [List.getD_eq_getElem?_getD, List.getElem?_eq_getElem l1] at hk
  rw [e, List.take_succ_eq_append_getElem l1, List.all_append, ht]
  simpa using hk
theorem all_fail_of {α : Type} (z : α) (ok : α → Bool) (p : List α) {x : Int} (h0 : 0 ≤ x) (h1 : x < p.length) (hk : ok (p.getD x.toNat z) = false) : p.all ok = false := by
  have l1 : x.toNat < p.length := by omega
  rw [List.getD_eq_getElem?_getD, List.getElem?_eq_getElem l1] at hk
  rw [List.all_eq_false]
  exact ⟨p[x.toNat], List.getElem_mem l1, by rw [show ok p[x.toNat] = false from hk]; decide⟩
theorem all_end_of {α : Type} {ok : α → Bool} {p : List α} {n : Nat} (h1 : p.length = n) (ht : (p.take (n : Int).toNat).all ok = true) : p.all ok = true := by
  rwa [List.take_of_length_le (by omega)] at ht
theorem fit_lo {v : Int} (h : v < 0) : fitB v = false := decide_eq_false (fun e => by omega)
theorem fit_hi {v : Int} (h : 4294967295 < v) : fitB v = false := decide_eq_false (fun e => by omega)
theorem fit_in {v : Int} (h0 : ¬ v < 0) (h1 : ¬ 4294967295 < v) : fitB v = true := decide_eq_true ⟨by omega, by omega⟩
/-! ### Great -/
/-- What Great tells: some answer; 'no' bounds the parts. -/
def GreatPost (w : World) (j : Job) (e : Ending) (w' : World) : Prop := ∃ b : Bool, e = .returned (.bool b) ∧ (b = false → greatB j.cfg = false ∧ j.streams.length ≤ 100 ∧ j.acts.length ≤ 5000) ∧ Below w.heap.size w w'
set_option maxRecDepth 20000 in
set_option maxHeartbeats 8000000 in
theorem great_job {w : World} {j : Job} {A0 : Option Addr} {cA0 : Nat} {A1 : Option Addr} {cA1 : Nat} {A2 : Option Addr} {cA2 : Nat} {A3 : Option Addr} {cA3 : Nat} {A4 : Option Addr} {cA4 : Nat} {A5 : Option Addr} {cA5 : Nat} (h : IsJob w j A0 cA0 A1 cA1 A2 cA2 A3 cA3 A4 cA4 A5 cA5) (hs : j.streams.length ≤ 9223372036854775807) (hr : ∀ l ∈ j.streams, l.length ≤ 9223372036854775807) :
    Calls Try.prog 23 #[.agg #[.slice A0 j.cfg.ps.length cA0, .slice A1 j.cfg.xs.length cA1, .int .i64 j.cfg.l0, .slice A2 j.cfg.ws0.length cA2, .int .i64 j.cfg.l1, .slice A3 j.cfg.ws1.length cA3, .slice A4 j.streams.length cA4, .slice A5 j.acts.length cA5]] w fun e w' => GreatPost w j e w' := by
  have HP := Aside0.mk (SK.start w (.slice A0 j.cfg.ps.length cA0) (.slice A1 j.cfg.xs.length cA1) (.int .i64 j.cfg.l0) (.slice A2 j.cfg.ws0.length cA2) (.int .i64 j.cfg.l1) (.slice A3 j.cfg.ws1.length cA3) (.slice A4 j.streams.length cA4) (.slice A5 j.acts.length cA5))
  have hgc := fun (X : World) (hX : Below w.heap.size w X) => great_calls (isCfg_below h.cfg hX)
  have hsa := h.st
  obtain ⟨gb, hgb⟩ : ∃ g, greatB j.cfg = g := ⟨_, rfl⟩
  obtain ⟨n4, hn4⟩ : ∃ n, j.streams.length = n := ⟨_, rfl⟩
  obtain ⟨n5, hn5⟩ : ∃ n, j.acts.length = n := ⟨_, rfl⟩
  rw [hgb] at hgc
  have HPO : Aside0 (∀ (b : Bool) (w' : World), Below w.heap.size w w' → (b = false → gb = false ∧ n4 ≤ 100 ∧ n5 ≤ 5000) → GreatPost w j (.returned (.bool b)) w') := ⟨fun b w' hb hx => ⟨b, rfl, fun h => by rw [hgb, hn4, hn5]; exact hx h, hb⟩⟩
  generalize hpost : GreatPost w j = po at *
  rw [hn4] at hsa hs HP ⊢
  rw [hn5] at HP ⊢
  clear hgb hn5 hpost h
  generalize j.cfg.ps.length = n0 at *
  generalize j.cfg.xs.length = n1 at *
  generalize j.cfg.l0 = nl0 at *
  generalize j.cfg.ws0.length = n2 at *
  generalize j.cfg.l1 = nl1 at *
  generalize j.cfg.ws1.length = n3 at *
  generalize j.streams = sa at *
  have HN := Aside0.mk hn4
  have HSA := Aside0.mk hsa
  have HGC := Aside0.mk hgc
  have HRL := Aside0.mk hr
  clear hgc hsa hn4 hr
  go_enter Try.func23, Try.ntmps23
  go_upto_region 1 with fail
  generalize w.alloc (.cells #[.slice A0 n0 cA0, .slice A1 n1 cA1, .int .i64 nl0, .slice A2 n2 cA2, .int .i64 nl1, .slice A3 n3 cA3, .slice A4 n4 cA4, .slice A5 n5 cA5] 48) = w1 at *
  go_cut [20] (fun s20 wx => ∃ t : Bool, s20 = .bool t ∧ Aside0 (t = false → gb = false ∧ n4 ≤ 100 ∧ n5 ≤ 5000) ∧ Aside0 (SK w wx (.slice A0 n0 cA0) (.slice A1 n1 cA1) (.int .i64 nl0) (.slice A2 n2 cA2) (.int .i64 nl1) (.slice A3 n3 cA3) (.slice A4 n4 cA4) (.slice A5 n5 cA5)))
  case first =>
    have ha0 := HP.out.a0
    have ha1 := HP.out.a1
    have ha2 := HP.out.a2
    have ha3 := HP.out.a3
    have ha4 := HP.out.a4
    have ha5 := HP.out.a5
    go_wp2_with fail
    clear ha0 ha1 ha2 ha3 ha4 ha5
    refine (HGC.out _ HP.out.bel).mono ?_
    rintro e w3 ⟨rfl, hbw⟩
    have HP3 := Aside0.mk (HP.out.to hbw)
    clear hbw HP HGC
    cases gb with
    | true =>
      go_wp2
      go_meet
      exact ⟨true, by trivial, ⟨fun h => absurd h (by decide)⟩, HP3⟩
    | false =>
      have ha6 := HP3.out.a6
      have ha7 := HP3.out.a7
      by_cases c4 : 100 < n4
      · have hd : decide ((100 : Int) < (n4 : Int)) = true := decide_eq_true (by omega)
        clear c4
        go_wp2
        go_meet
        exact ⟨true, by trivial, ⟨fun h => absurd h (by decide)⟩, HP3⟩
      · have hd : decide ((100 : Int) < (n4 : Int)) = false := decide_eq_false (by omega)
        by_cases c5 : 5000 < n5
        · have hd5 : decide ((5000 : Int) < (n5 : Int)) = true := decide_eq_true (by omega)
          clear c4 c5
          go_wp2
          go_meet
          exact ⟨true, by trivial, ⟨fun h => absurd h (by decide)⟩, HP3⟩
        · have hd5 : decide ((5000 : Int) < (n5 : Int)) = false := decide_eq_false (by omega)
          have HB : Aside0 (n4 ≤ 100 ∧ n5 ≤ 5000) := ⟨by omega⟩
          clear c4 c5
          go_wp2
          go_meet
          exact ⟨false, by trivial, ⟨fun _ => ⟨by trivial, HB.out⟩⟩, HP3⟩
  case rest =>
    obtain ⟨t, rfl, HT, HP2⟩ := hcut
    clear HP HGC
    cases t with
    | true =>
      go_wp2
      (try go_ret)
      exact HPO.out true _ HP2.out.bel (fun h => absurd h (by decide))
    | false =>
      have HBB := Aside0.mk (HT.out rfl)
      clear HT
      go_wp2_with fail
      go_loopw [3, 4] (fun v3 v4 wr => ∃ (m x : Int), 0 ≤ x ∧ x ≤ n4 ∧ v3 = .int .i64 m ∧ v4 = .int .i64 x ∧ Aside0 (SK w wr (.slice A0 n0 cA0) (.slice A1 n1 cA1) (.int .i64 nl0) (.slice A2 n2 cA2) (.int .i64 nl1) (.slice A3 n3 cA3) (.slice A4 n4 cA4) (.slice A5 n5 cA5))) (fun _ v _ => n4 - (intOf v).toNat)
      case atStart => exact ⟨0, 0, by omega, by omega, rfl, rfl, HP2⟩
      case round =>
        clear HP2
        obtain ⟨m, x, hx0, hx1, rfl, rfl, HX⟩ := hrel
        have ha6 := HX.out.a6
        by_cases hlt : x < n4
        · have hd : decide (x < (n4 : Int)) = true := decide_eq_true hlt
          by_cases hm : m < 1000
          · have hdm : decide (m < (1000 : Int)) = true := decide_eq_true hm
            obtain ⟨ad, P, cP, e1, hg, hlP, hrP⟩ := at_S HSA.out x hx0 hlt
            cases e1
            have HG := Aside0.mk hg
            have hg1 := pw_cell_below HX.out.bel hg
            have hix : x.toNat < sa.length := by rw [HN.out]; omega
            have hrl : (rdS sa x).length ≤ 9223372036854775807 := HRL.out _ (by
              unfold rdS
              rw [List.getD_eq_getElem?_getD, List.getElem?_eq_getElem hix]
              exact List.getElem_mem hix)
            generalize rdS sa x = la at *
            obtain ⟨p, hp⟩ : ∃ n, la.length = n := ⟨_, rfl⟩
            rw [hp] at hg1 HG hrP hrl
            have HRP := Aside0.mk hrP
            clear hg hix hlP hrP hp hm
            have p0 := eq_true hx0
            have p1 := eq_true hlt
            go_wp2_with fail
            obtain ⟨m2, hm2⟩ : ∃ m2 : Int, wrap64 (wrap64 (m + 1) + (p : Int)) = m2 := ⟨_, rfl⟩
            try rw [hm2]
            clear hdm hm2
            go_loopw [3, 5] (fun v3 v5 wr => ∃ (m y : Int), 0 ≤ y ∧ y ≤ p ∧ v3 = .int .i64 m ∧ v5 = .int .i64 y ∧ Aside0 (SK w wr (.slice A0 n0 cA0) (.slice A1 n1 cA1) (.int .i64 nl0) (.slice A2 n2 cA2) (.int .i64 nl1) (.slice A3 n3 cA3) (.slice (some ad) n4 cA4) (.slice A5 n5 cA5))) (fun _ v _ => p - (intOf v).toNat)
            case atStart => exact ⟨_, 0, by omega, by omega, rfl, rfl, HX⟩
            case round =>
              clear HX ha6 hg1
              obtain ⟨m, y, hy0, hy1, rfl, rfl, HX⟩ := hrel
              have ha6 := HX.out.a6
              have hg1 := pw_cell_below HX.out.bel HG.out
              by_cases hlty : y < p
              · have hdy : decide (y < (p : Int)) = true := decide_eq_true hlty
                by_cases hm : m < 1000
                · have hdm : decide (m < (1000 : Int)) = true := decide_eq_true hm
                  obtain ⟨ud, D, cD, e1, hu0, hu1, hu2, hu3, hlD, hrD⟩ := at_Q HRP.out y hy0 hlty
                  cases e1
                  have hu3 := pw_cell_below HX.out.bel hu3
                  generalize (rdQ la y).data.length = dl at *
                  clear hu0 hu1 hu2 hlD hrD hm
                  have p2 := eq_true hy0
                  have p3 := eq_true hlty
                  go_wp2
                  go_roundw
                  case rel => exact ⟨_, y + 1, by omega, by omega, rfl, by go_num, HX⟩
                  case measure => simp [intOf]; omega
                · have hdm : decide (m < (1000 : Int)) = false := decide_eq_false hm
                  clear hm
                  go_wp2
                  go_roundw
                  case rel => exact ⟨_, x + 1, by omega, by omega, rfl, by go_num, HX⟩
                  case measure => simp [intOf]; omega
              · obtain rfl : y = (p : Int) := by omega
                have hdy : decide ((p : Int) < (p : Int)) = false := decide_eq_false (by omega)
                clear hlty hy0 hy1
                go_wp2
                go_roundw
                case rel => exact ⟨_, x + 1, by omega, by omega, rfl, by go_num, HX⟩
                case measure => simp [intOf]; omega
          · have hdm : decide (m < (1000 : Int)) = false := decide_eq_false hm
            clear hm
            go_wp2
            (try go_ret)
            exact HPO.out _ _ HX.out.bel (fun _ => HBB.out)
        · obtain rfl : x = (n4 : Int) := by omega
          have hd : decide ((n4 : Int) < (n4 : Int)) = false := decide_eq_false (by omega)
          clear hx0 hx1 hlt
          go_wp2
          (try go_ret)
          exact HPO.out _ _ HX.out.bel (fun _ => HBB.out)
/-! ### Told -/
set_option maxRecDepth 20000 in
set_option maxHeartbeats 8000000 in
theorem told_job {w : World} {j : Job} {A0 : Option Addr} {cA0 : Nat} {A1 : Option Addr} {cA1 : Nat} {A2 : Option Addr} {cA2 : Nat} {A3 : Option Addr} {cA3 : Nat} {A4 : Option Addr} {cA4 : Nat} {A5 : Option Addr} {cA5 : Nat} (h : IsJob w j A0 cA0 A1 cA1 A2 cA2 A3 cA3 A4 cA4 A5 cA5) (hs : j.streams.length ≤ 9223372036854775807) (ha : j.acts.length ≤ 9223372036854775807) :
    Calls Try.prog 25 #[.agg #[.slice A0 j.cfg.ps.length cA0, .slice A1 j.cfg.xs.length cA1, .int .i64 j.cfg.l0, .slice A2 j.cfg.ws0.length cA2, .int .i64 j.cfg.l1, .slice A3 j.cfg.ws1.length cA3, .slice A4 j.streams.length cA4, .slice A5 j.acts.length cA5]] w fun e w' => e = .returned (.bool (toldJ j)) ∧ Below w.heap.size w w' := by
  obtain ⟨r, hr⟩ : ∃ r, toldJ j = r := ⟨_, rfl⟩
  obtain ⟨tb, htb⟩ : ∃ t, toldB j.cfg = t := ⟨_, rfl⟩
  have hr' : r = (tb && ((decide (j.streams.length ≤ 64) && decide (j.acts.length ≤ 4096)) && (j.acts.all fitB && j.streams.all okL))) := by rw [← hr, ← htb]; rfl
  rw [hr]
  have htd := fun (X : World) (hX : Below w.heap.size w X) => told_calls (isCfg_below h.cfg hX)
  rw [htb] at htd
  have HTD := Aside0.mk htd
  have HR := Aside0.mk hr'
  clear hr htb htd
  have HP := Aside0.mk (SK.start w (.slice A0 j.cfg.ps.length cA0) (.slice A1 j.cfg.xs.length cA1) (.int .i64 j.cfg.l0) (.slice A2 j.cfg.ws0.length cA2) (.int .i64 j.cfg.l1) (.slice A3 j.cfg.ws1.length cA3) (.slice A4 j.streams.length cA4) (.slice A5 j.acts.length cA5))
  have hsa := h.st
  have hac := h.ac
  obtain ⟨n4, hn4⟩ : ∃ n, j.streams.length = n := ⟨_, rfl⟩
  obtain ⟨n5, hn5⟩ : ∃ n, j.acts.length = n := ⟨_, rfl⟩
  rw [hn4] at hsa HP HR hs ⊢
  rw [hn5] at hac HP HR ha ⊢
  clear h hr'
  generalize j.cfg.ps.length = n0 at *
  generalize j.cfg.xs.length = n1 at *
  generalize j.cfg.l0 = nl0 at *
  generalize j.cfg.ws0.length = n2 at *
  generalize j.cfg.l1 = nl1 at *
  generalize j.cfg.ws1.length = n3 at *
  generalize j.streams = sa at *
  generalize j.acts = aa at *
  have HN := Aside0.mk (And.intro hn4 hn5)
  have HSA := Aside0.mk hsa
  have HAC := Aside0.mk hac
  clear hsa hac hn4 hn5
  have HRF : Aside0 ((tb = false → r = false) ∧ (64 < n4 → r = false) ∧ (4096 < n5 → r = false) ∧ (aa.all fitB = false → r = false) ∧ (sa.all okL = false → r = false) ∧ (tb = true → n4 ≤ 64 → n5 ≤ 4096 → aa.all fitB = true → sa.all okL = true → r = true)) := ⟨by
    have h := HR.out
    refine ⟨fun e => by rw [h, e]; rfl, fun e => ?_, fun e => ?_, fun e => by rw [h, e]; simp, fun e => by rw [h, e]; simp, fun e1 e2 e3 e4 e5 => ?_⟩
    · rw [h, decide_eq_false (show ¬ n4 ≤ 64 by omega)]; simp
    · rw [h, decide_eq_false (show ¬ n5 ≤ 4096 by omega)]; simp
    · rw [h, e1, e4, e5, decide_eq_true e2, decide_eq_true e3]; rfl⟩
  clear HR
  go_enter Try.func25, Try.ntmps25
  go_upto_region 1 with fail
  generalize w.alloc (.cells #[.slice A0 n0 cA0, .slice A1 n1 cA1, .int .i64 nl0, .slice A2 n2 cA2, .int .i64 nl1, .slice A3 n3 cA3, .slice A4 n4 cA4, .slice A5 n5 cA5] 48) = w1 at *
  go_cut [22] (fun s22 wx => ∃ t : Bool, s22 = .bool t ∧ Aside0 ((t = true → r = false) ∧ (t = false → tb = true ∧ n4 ≤ 64 ∧ n5 ≤ 4096)) ∧ Aside0 (SK w wx (.slice A0 n0 cA0) (.slice A1 n1 cA1) (.int .i64 nl0) (.slice A2 n2 cA2) (.int .i64 nl1) (.slice A3 n3 cA3) (.slice A4 n4 cA4) (.slice A5 n5 cA5)))
  case first =>
    have ha0 := HP.out.a0
    have ha1 := HP.out.a1
    have ha2 := HP.out.a2
    have ha3 := HP.out.a3
    have ha4 := HP.out.a4
    have ha5 := HP.out.a5
    go_wp2_with fail
    clear ha0 ha1 ha2 ha3 ha4 ha5
    refine (HTD.out _ HP.out.bel).mono ?_
    rintro e w3 ⟨rfl, hbw⟩
    have HP3 := Aside0.mk (HP.out.to hbw)
    clear hbw HP HTD
    cases tb with
    | false =>
      have HF := Aside0.mk (HRF.out.1 rfl)
      go_wp2
      go_meet
      exact ⟨true, by trivial, ⟨fun _ => HF.out, fun h => absurd h (by decide)⟩, HP3⟩
    | true =>
      have ha6 := HP3.out.a6
      have ha7 := HP3.out.a7
      by_cases c0 : 64 < n4
      · have d0 : decide ((64 : Int) < (n4 : Int)) = true := decide_eq_true (by omega)
        have HF := Aside0.mk (HRF.out.2.1 c0)
        clear c0
        go_wp2
        go_meet
        exact ⟨true, by trivial, ⟨fun _ => HF.out, fun h => absurd h (by decide)⟩, HP3⟩
      · have d0 : decide ((64 : Int) < (n4 : Int)) = false := decide_eq_false (by omega)
        by_cases c1 : 4096 < n5
        · have d1 : decide ((4096 : Int) < (n5 : Int)) = true := decide_eq_true (by omega)
          have HF := Aside0.mk (HRF.out.2.2.1 c1)
          clear c0 c1
          go_wp2
          go_meet
          exact ⟨true, by trivial, ⟨fun _ => HF.out, fun h => absurd h (by decide)⟩, HP3⟩
        · have d1 : decide ((4096 : Int) < (n5 : Int)) = false := decide_eq_false (by omega)
          have HB : Aside0 (n4 ≤ 64 ∧ n5 ≤ 4096) := ⟨by omega⟩
          clear c0 c1
          go_wp2
          go_meet
          exact ⟨false, by trivial, ⟨fun h => absurd h (by decide), fun _ => ⟨by trivial, HB.out⟩⟩, HP3⟩
  case rest =>
    obtain ⟨t, rfl, HT, HP2⟩ := hcut
    clear HP HTD
    cases t with
    | true =>
      have HF := Aside0.mk (HT.out.1 rfl)
      clear HT
      go_wp2
      go_ret
      exact ⟨by rw [HF.out]; rfl, HP2.out.bel⟩
    | false =>
      have HBB := Aside0.mk (HT.out.2 rfl)
      clear HT
      go_wp2_with fail
      go_loopw [3] (fun v wr => ∃ x : Int, 0 ≤ x ∧ x ≤ n5 ∧ v = .int .i64 x ∧ Aside0 ((aa.take x.toNat).all fitB = true) ∧ Aside0 (SK w wr (.slice A0 n0 cA0) (.slice A1 n1 cA1) (.int .i64 nl0) (.slice A2 n2 cA2) (.int .i64 nl1) (.slice A3 n3 cA3) (.slice A4 n4 cA4) (.slice A5 n5 cA5))) (fun v _ => n5 - (intOf v).toNat)
      case atStart => exact ⟨0, by omega, by omega, rfl, ⟨rfl⟩, HP2⟩
      case round =>
        clear HP2
        obtain ⟨x, hx0, hx1, rfl, HT, HX⟩ := hrel
        have ha7 := HX.out.a7
        by_cases hlt : x < n5
        · have hd : decide (x < (n5 : Int)) = true := decide_eq_true hlt
          obtain ⟨ad, e1, hu⟩ := Kd.at_int HAC.out x hx0 hlt
          cases e1
          have hu := pw_cell_below HX.out.bel hu
          have HSX : Aside0 (fitB (rd aa x) = true → (aa.take (x + 1).toNat).all fitB = true) := ⟨all_succ_of 0 fitB aa hx0 (by rw [HN.out.2]; exact hlt) HT.out⟩
          have HFX : Aside0 (fitB (rd aa x) = false → r = false) := ⟨fun h => HRF.out.2.2.2.1 (all_fail_of 0 fitB aa hx0 (by rw [HN.out.2]; exact hlt) h)⟩
          generalize rd aa x = u at *
          have p0 := eq_true hx0
          have p1 := eq_true hlt
          clear HT
          by_cases c0 : u < 0
          · have d0 : decide (u < (0 : Int)) = true := decide_eq_true (by omega)
            have HF : Aside0 (r = false) := ⟨HFX.out (fit_lo c0)⟩
            clear c0
            go_wp2
            go_ret
            exact ⟨by rw [HF.out]; rfl, HX.out.bel⟩
          · have d0 : decide (u < (0 : Int)) = false := decide_eq_false (by omega)
            by_cases c1 : 4294967295 < u
            · have d1 : decide ((4294967295 : Int) < u) = true := decide_eq_true (by omega)
              have HF : Aside0 (r = false) := ⟨HFX.out (fit_hi c1)⟩
              clear c0 c1
              go_wp2
              go_ret
              exact ⟨by rw [HF.out]; rfl, HX.out.bel⟩
            · have d1 : decide ((4294967295 : Int) < u) = false := decide_eq_false (by omega)
              have HY : Aside0 ((aa.take (x + 1).toNat).all fitB = true) := ⟨HSX.out (fit_in c0 c1)⟩
              clear c0 c1
              go_wp2
              go_roundw
              case rel => exact ⟨x + 1, by omega, by omega, by go_num, HY, HX⟩
              case measure => simp [intOf]; omega
        · obtain rfl : x = (n5 : Int) := by omega
          have hd : decide ((n5 : Int) < (n5 : Int)) = false := decide_eq_false (by omega)
          have HAA := Aside0.mk (all_end_of HN.out.2 HT.out)
          clear HT hx0 hx1 hlt
          go_wp2_with fail
          clear hd ha7
          have HX0 := HX
          clear HX
          go_loopw [4] (fun v wr => ∃ x : Int, 0 ≤ x ∧ x ≤ n4 ∧ v = .int .i64 x ∧ Aside0 ((sa.take x.toNat).all okL = true) ∧ Aside0 (SK w wr (.slice A0 n0 cA0) (.slice A1 n1 cA1) (.int .i64 nl0) (.slice A2 n2 cA2) (.int .i64 nl1) (.slice A3 n3 cA3) (.slice A4 n4 cA4) (.slice A5 n5 cA5))) (fun v _ => n4 - (intOf v).toNat)
          case atStart => exact ⟨0, by omega, by omega, rfl, ⟨rfl⟩, HX0⟩
          case round =>
            clear HX0
            obtain ⟨x, hx0, hx1, rfl, HT, HX⟩ := hrel
            have ha6 := HX.out.a6
            by_cases hlt : x < n4
            · have hd : decide (x < (n4 : Int)) = true := decide_eq_true hlt
              obtain ⟨ad, P, cP, e1, hg, hlP, hrP⟩ := at_S HSA.out x hx0 hlt
              cases e1
              have HG := Aside0.mk hg
              have hg1 := pw_cell_below HX.out.bel hg
              have HSX : Aside0 (okL (rdS sa x) = true → (sa.take (x + 1).toNat).all okL = true) := ⟨all_succ_of [] okL sa hx0 (by rw [HN.out.1]; exact hlt) HT.out⟩
              have HFX : Aside0 (okL (rdS sa x) = false → r = false) := ⟨fun h => HRF.out.2.2.2.2.1 (all_fail_of [] okL sa hx0 (by rw [HN.out.1]; exact hlt) h)⟩
              generalize rdS sa x = la at *
              obtain ⟨p, hp⟩ : ∃ n, la.length = n := ⟨_, rfl⟩
              rw [hp] at hg1 HG hrP
              have HRP := Aside0.mk hrP
              have HPL := Aside0.mk hp
              have p0 := eq_true hx0
              have p1 := eq_true hlt
              clear hg hlP hrP hp HT
              by_cases c0 : 64 < p
              · have d0 : decide ((64 : Int) < (p : Int)) = true := decide_eq_true (by omega)
                have HF : Aside0 (r = false) := ⟨HFX.out (by unfold okL; rw [HPL.out, decide_eq_false (show ¬ p ≤ 64 by omega)]; rfl)⟩
                clear c0
                go_wp2
                go_ret
                exact ⟨by rw [HF.out]; rfl, HX.out.bel⟩
              · have d0 : decide ((64 : Int) < (p : Int)) = false := decide_eq_false (by omega)
                have HFQ : Aside0 (la.all okQ = false → r = false) := ⟨fun h => HFX.out (by unfold okL; rw [h]; simp)⟩
                have HSQ : Aside0 (la.all okQ = true → (sa.take (x + 1).toNat).all okL = true) := ⟨fun h => HSX.out (by unfold okL; rw [h, HPL.out, decide_eq_true (show p ≤ 64 by omega)]; rfl)⟩
                have HP64 : Aside0 (p ≤ 64) := ⟨by omega⟩
                clear c0 HSX HFX
                go_wp2_with fail
                clear d0 ha6 hg1
                have HX0 := HX
                clear HX
                go_loopw [5] (fun v wr => ∃ y : Int, 0 ≤ y ∧ y ≤ p ∧ v = .int .i64 y ∧ Aside0 ((la.take y.toNat).all okQ = true) ∧ Aside0 (SK w wr (.slice A0 n0 cA0) (.slice A1 n1 cA1) (.int .i64 nl0) (.slice A2 n2 cA2) (.int .i64 nl1) (.slice A3 n3 cA3) (.slice (some ad) n4 cA4) (.slice A5 n5 cA5))) (fun v _ => p - (intOf v).toNat)
                case atStart => exact ⟨0, by omega, by omega, rfl, ⟨rfl⟩, HX0⟩
                case round =>
                  clear HX0
                  obtain ⟨y, hy0, hy1, rfl, HT, HX⟩ := hrel
                  have ha6 := HX.out.a6
                  have hg1 := pw_cell_below HX.out.bel HG.out
                  by_cases hlty : y < p
                  · have hdy : decide (y < (p : Int)) = true := decide_eq_true hlty
                    obtain ⟨ud, D, cD, e1, hu0, hu1, hu2, hu3, hlD, hrD⟩ := at_Q HRP.out y hy0 hlty
                    cases e1
                    have hu0 := pw_cell_below HX.out.bel hu0
                    have hu1 := pw_cell_below HX.out.bel hu1
                    have hu2 := pw_cell_below HX.out.bel hu2
                    have hu3 := pw_cell_below HX.out.bel hu3
                    have HSX : Aside0 (okQ (rdQ la y) = true → (la.take (y + 1).toNat).all okQ = true) := ⟨all_succ_of zreq okQ la hy0 (by rw [HPL.out]; exact hlty) HT.out⟩
                    have HFX : Aside0 (okQ (rdQ la y) = false → r = false) := ⟨fun h => HFQ.out (all_fail_of zreq okQ la hy0 (by rw [HPL.out]; exact hlty) h)⟩
                    generalize rdQ la y = u at *
                    have HOK : Aside0 (okQ u = (fitB u.op && (fitB u.port && decide (u.data.length ≤ 64)))) := ⟨rfl⟩
                    generalize u.op = uo at *
                    generalize u.port = up at *
                    generalize u.addr = ua at *
                    generalize u.data.length = ul at *
                    have p2 := eq_true hy0
                    have p3 := eq_true hlty
                    have hw1 : wrap64 (y + 1) = y + 1 := by
                      have := HP64.out
                      unfold wrap64
                      omega
                    clear HT hlD hrD
                    go_upto_region 17 with fail
                    have HX2 := Aside0.mk (HX.out.alloc (.cells #[.int .i64 uo, .int .i64 up, .int .u64 ua, .slice D ul cD] 90))
                    have HG2 := Aside0.mk (blk_new wr (.cells #[.int .i64 uo, .int .i64 up, .int .u64 ua, .slice D ul cD] 90))
                    generalize wr.alloc (.cells #[.int .i64 uo, .int .i64 up, .int .u64 ua, .slice D ul cD] 90) = w2 at *
                    generalize wr.heap.size = g2 at *
                    clear hu0 hu1 hu2 hu3 HX hg1 ha6
                    have hu0 := (blk_cell HG2.out 0).trans rfl
                    have hu1 := (blk_cell HG2.out 1).trans rfl
                    have hu3 := (blk_cell HG2.out 3).trans rfl
                    by_cases c0 : uo < 0
                    · have d0 : decide (uo < (0 : Int)) = true := decide_eq_true (by omega)
                      have HF : Aside0 (r = false) := ⟨HFX.out (by rw [HOK.out, fit_lo c0]; simp)⟩
                      clear c0
                      go_wp2
                      go_ret
                      exact ⟨by rw [HF.out]; rfl, HX2.out.bel⟩
                    · have d0 : decide (uo < (0 : Int)) = false := decide_eq_false (by omega)
                      by_cases c1 : 4294967295 < uo
                      · have d1 : decide ((4294967295 : Int) < uo) = true := decide_eq_true (by omega)
                        have HF : Aside0 (r = false) := ⟨HFX.out (by rw [HOK.out, fit_hi c1]; simp)⟩
                        clear c0 c1
                        go_wp2
                        go_ret
                        exact ⟨by rw [HF.out]; rfl, HX2.out.bel⟩
                      · have d1 : decide ((4294967295 : Int) < uo) = false := decide_eq_false (by omega)
                        by_cases c2 : up < 0
                        · have d2 : decide (up < (0 : Int)) = true := decide_eq_true (by omega)
                          have HF : Aside0 (r = false) := ⟨HFX.out (by rw [HOK.out, fit_lo c2]; simp)⟩
                          clear c0 c1 c2
                          go_wp2
                          go_ret
                          exact ⟨by rw [HF.out]; rfl, HX2.out.bel⟩
                        · have d2 : decide (up < (0 : Int)) = false := decide_eq_false (by omega)
                          by_cases c3 : 4294967295 < up
                          · have d3 : decide ((4294967295 : Int) < up) = true := decide_eq_true (by omega)
                            have HF : Aside0 (r = false) := ⟨HFX.out (by rw [HOK.out, fit_hi c3]; simp)⟩
                            clear c0 c1 c2 c3
                            go_wp2
                            go_ret
                            exact ⟨by rw [HF.out]; rfl, HX2.out.bel⟩
                          · have d3 : decide ((4294967295 : Int) < up) = false := decide_eq_false (by omega)
                            by_cases c4 : 64 < ul
                            · have d4 : decide ((64 : Int) < (ul : Int)) = true := decide_eq_true (by omega)
                              have HF : Aside0 (r = false) := ⟨HFX.out (by rw [HOK.out, decide_eq_false (show ¬ ul ≤ 64 by omega)]; simp)⟩
                              clear c0 c1 c2 c3 c4
                              go_wp2
                              go_ret
                              exact ⟨by rw [HF.out]; rfl, HX2.out.bel⟩
                            · have d4 : decide ((64 : Int) < (ul : Int)) = false := decide_eq_false (by omega)
                              have HY : Aside0 ((la.take (y + 1).toNat).all okQ = true) := ⟨HSX.out (by rw [HOK.out, fit_in c0 c1, fit_in c2 c3, decide_eq_true (show ul ≤ 64 by omega)]; rfl)⟩
                              clear c0 c1 c2 c3 c4
                              go_wp2
                              go_roundw
                              case rel => exact ⟨y + 1, by omega, by omega, by go_num, HY, HX2⟩
                              case measure => simp [intOf]; omega
                  · obtain rfl : y = (p : Int) := by omega
                    have hdy : decide ((p : Int) < (p : Int)) = false := decide_eq_false (by omega)
                    have HY := Aside0.mk (HSQ.out (all_end_of HPL.out HT.out))
                    clear HT hlty hy0 hy1
                    go_wp2
                    go_roundw
                    case rel => exact ⟨x + 1, by omega, by omega, by go_num, HY, HX⟩
                    case measure => simp [intOf]; omega
            · obtain rfl : x = (n4 : Int) := by omega
              have hd : decide ((n4 : Int) < (n4 : Int)) = false := decide_eq_false (by omega)
              have HF : Aside0 (r = true) := ⟨HRF.out.2.2.2.2.2 HBB.out.1 HBB.out.2.1 HBB.out.2.2 HAA.out (all_end_of HN.out.1 HT.out)⟩
              clear HT hx0 hx1 hlt
              go_wp2
              go_ret
              exact ⟨by rw [HF.out]; rfl, HX.out.bel⟩
/-! ### the program's told -/
theorem nofit_calls (n : Int) (w : World) : Calls Try.prog 73 #[.int .i64 n] w fun e w' => e = .returned (.bool (!fitB n)) ∧ Below w.heap.size w w' := by
  have HC := Aside0.mk (fit_calls n w)
  generalize fitB n = t at *
  go_enter Try.func73, Try.ntmps73
  go_wp2_with fail
  refine HC.out.mono ?_
  rintro e w3 ⟨rfl, hd⟩
  have HB := Aside0.mk (below_drawn0 (Below.refl w.heap.size w) hd)
  clear hd HC
  go_wp2
  go_ret
  exact ⟨rfl, HB.out⟩
/-- The place of the first number that is no word, or -1. -/
def IndexPost (w : World) (l : List Int) (e : Ending) (w' : World) : Prop := ∃ i : Int, e = .returned (.int .i64 i) ∧ decide (0 ≤ i) = !l.all fitB ∧ Below w.heap.size w w'
set_option maxRecDepth 20000 in
set_option maxHeartbeats 4000000 in
theorem index_calls (A : Option Addr) (c : Nat) (la : List Int) (w : World) (ha : Kd.C (Kd.int .i64) w A la.length la) (hn : la.length ≤ 9223372036854775807) :
    Calls Try.prog 79 #[.slice A la.length c, .func (.func 73) #[] #[]] w fun e w' => IndexPost w la e w' := by
  obtain ⟨t, ht⟩ : ∃ t, la.all fitB = t := ⟨_, rfl⟩
  have HPO : Aside0 (∀ (i : Int) (w' : World), Below w.heap.size w w' → decide (0 ≤ i) = !t → IndexPost w la (.returned (.int .i64 i)) w') := ⟨fun i w' hb hx => ⟨i, rfl, by rw [ht]; exact hx, hb⟩⟩
  generalize hpost : IndexPost w la = po at *
  obtain ⟨p, hp⟩ : ∃ n, la.length = n := ⟨_, rfl⟩
  have HP := Aside0.mk hp
  have HT0 := Aside0.mk ht
  rw [hp] at ha hn ⊢
  have HA := Aside0.mk ha
  have HW := Aside0.mk (Below.refl w.heap.size w)
  clear hp ha ht hpost
  go_enter Try.func79, Try.ntmps79
  go_wp2_with fail
  go_loopw [8] (fun v wr => ∃ x : Int, 0 ≤ x ∧ x ≤ p ∧ v = .int .i64 x ∧ Aside0 ((la.take x.toNat).all fitB = true) ∧ Aside0 (Below w.heap.size w wr)) (fun v _ => p - (intOf v).toNat)
  case atStart => exact ⟨0, by omega, by omega, rfl, ⟨rfl⟩, HW⟩
  case round =>
    clear HW
    obtain ⟨x, hx0, hx1, rfl, HT, HX⟩ := hrel
    by_cases hlt : x < p
    · have hd : decide (x < (p : Int)) = true := decide_eq_true hlt
      obtain ⟨ad, e1, hu⟩ := Kd.at_int HA.out x hx0 hlt
      cases e1
      have hu := pw_cell_below HX.out hu
      have HSX : Aside0 (fitB (rd la x) = true → (la.take (x + 1).toNat).all fitB = true) := ⟨all_succ_of 0 fitB la hx0 (by rw [HP.out]; exact hlt) HT.out⟩
      have HFX : Aside0 (fitB (rd la x) = false → t = false) := ⟨fun h => by rw [← HT0.out]; exact all_fail_of 0 fitB la hx0 (by rw [HP.out]; exact hlt) h⟩
      have HC := Aside0.mk (nofit_calls (rd la x) wr)
      generalize rd la x = u at *
      generalize fitB u = f at *
      have p0 := eq_true hx0
      have p1 := eq_true hlt
      clear HT
      go_wp2_with fail
      refine HC.out.mono ?_
      rintro e w3 ⟨rfl, hbw⟩
      have HB := Aside0.mk (HX.out.trans (hbw.mono HX.out.size))
      clear hbw HC HX hu
      cases f with
      | false =>
        have HF : Aside0 (decide (0 ≤ x) = !t) := ⟨by rw [HFX.out rfl, decide_eq_true hx0]; rfl⟩
        go_wp2
        (try go_ret)
        exact HPO.out _ _ HB.out HF.out
      | true =>
        have HY := Aside0.mk (HSX.out rfl)
        clear HSX HFX
        go_wp2
        go_roundw
        case rel => exact ⟨x + 1, by omega, by omega, by go_num, HY, HB⟩
        case measure => simp [intOf]; omega
    · obtain rfl : x = (p : Int) := by omega
      have hd : decide ((p : Int) < (p : Int)) = false := decide_eq_false (by omega)
      have HF : Aside0 (decide ((0 : Int) ≤ -1) = !t) := ⟨by rw [← HT0.out, all_end_of HP.out HT.out]; rfl⟩
      clear HT hx0 hx1 hlt
      go_wp2
      (try go_ret)
      exact HPO.out _ _ HX.out HF.out
theorem contains_calls (A : Option Addr) (c : Nat) (la : List Int) (w : World) (ha : Kd.C (Kd.int .i64) w A la.length la) (hn : la.length ≤ 9223372036854775807) :
    Calls Try.prog 72 #[.slice A la.length c, .func (.func 73) #[] #[]] w fun e w' => e = .returned (.bool (!la.all fitB)) ∧ Below w.heap.size w w' := by
  have HC := Aside0.mk (index_calls A c la w ha hn)
  generalize la.length = p at *
  clear ha hn
  go_enter Try.func72, Try.ntmps72
  go_wp2_with fail
  refine HC.out.mono ?_
  rintro e w3 ⟨i, rfl, hi, hbw⟩
  have HB := Aside0.mk hbw
  have HI := Aside0.mk hi
  clear hbw HC hi
  go_wp2
  go_ret
  exact ⟨by rw [← HI.out]; rfl, HB.out⟩
set_option maxRecDepth 20000 in
set_option maxHeartbeats 8000000 in
theorem told_prog {w : World} {j : Job} {A0 : Option Addr} {cA0 : Nat} {A1 : Option Addr} {cA1 : Nat} {A2 : Option Addr} {cA2 : Nat} {A3 : Option Addr} {cA3 : Nat} {A4 : Option Addr} {cA4 : Nat} {A5 : Option Addr} {cA5 : Nat} (h : IsJob w j A0 cA0 A1 cA1 A2 cA2 A3 cA3 A4 cA4 A5 cA5) (hs : j.streams.length ≤ 9223372036854775807) (ha : j.acts.length ≤ 9223372036854775807) :
    Calls Try.prog 47 #[.agg #[.slice A0 j.cfg.ps.length cA0, .slice A1 j.cfg.xs.length cA1, .int .i64 j.cfg.l0, .slice A2 j.cfg.ws0.length cA2, .int .i64 j.cfg.l1, .slice A3 j.cfg.ws1.length cA3, .slice A4 j.streams.length cA4, .slice A5 j.acts.length cA5]] w fun e w' => e = .returned (.bool (toldP j)) ∧ Below w.heap.size w w' := by
  obtain ⟨r, hr⟩ : ∃ r, toldP j = r := ⟨_, rfl⟩
  have hr' : r = ((decide (j.streams.length ≤ 64) && decide (j.acts.length ≤ 4096)) && (j.acts.all fitB && j.streams.all okL)) := by rw [← hr]; rfl
  rw [hr]
  have hcc := fun (X : World) (hX : Below w.heap.size w X) => contains_calls A5 cA5 j.acts X (Kd.C_below h.ac hX) ha
  obtain ⟨qf, hqf⟩ : ∃ q, j.acts.all fitB = q := ⟨_, rfl⟩
  rw [hqf] at hcc hr'
  have HR := Aside0.mk hr'
  clear hr hqf
  have HP := Aside0.mk (SK.start w (.slice A0 j.cfg.ps.length cA0) (.slice A1 j.cfg.xs.length cA1) (.int .i64 j.cfg.l0) (.slice A2 j.cfg.ws0.length cA2) (.int .i64 j.cfg.l1) (.slice A3 j.cfg.ws1.length cA3) (.slice A4 j.streams.length cA4) (.slice A5 j.acts.length cA5))
  have hsa := h.st
  obtain ⟨n4, hn4⟩ : ∃ n, j.streams.length = n := ⟨_, rfl⟩
  obtain ⟨n5, hn5⟩ : ∃ n, j.acts.length = n := ⟨_, rfl⟩
  rw [hn4] at hsa HP HR hs ⊢
  rw [hn5] at HP HR hcc ⊢
  clear h hr' ha hn5
  generalize j.cfg.ps.length = n0 at *
  generalize j.cfg.xs.length = n1 at *
  generalize j.cfg.l0 = nl0 at *
  generalize j.cfg.ws0.length = n2 at *
  generalize j.cfg.l1 = nl1 at *
  generalize j.cfg.ws1.length = n3 at *
  generalize j.streams = sa at *
  have HN := Aside0.mk hn4
  have HSA := Aside0.mk hsa
  have HCC := Aside0.mk hcc
  clear hsa hn4 hcc
  have HRF : Aside0 ((64 < n4 → r = false) ∧ (4096 < n5 → r = false) ∧ (sa.all okL = false → r = false) ∧ (n4 ≤ 64 → n5 ≤ 4096 → sa.all okL = true → r = qf)) := ⟨by
    have h := HR.out
    refine ⟨fun e => ?_, fun e => ?_, fun e => by rw [h, e]; simp, fun e2 e3 e5 => ?_⟩
    · rw [h, decide_eq_false (show ¬ n4 ≤ 64 by omega)]; simp
    · rw [h, decide_eq_false (show ¬ n5 ≤ 4096 by omega)]; simp
    · rw [h, e5, decide_eq_true e2, decide_eq_true e3]; simp⟩
  clear HR
  go_enter Try.func47, Try.ntmps47
  go_upto_region 1 with fail
  generalize w.alloc (.cells #[.slice A0 n0 cA0, .slice A1 n1 cA1, .int .i64 nl0, .slice A2 n2 cA2, .int .i64 nl1, .slice A3 n3 cA3, .slice A4 n4 cA4, .slice A5 n5 cA5] 48) = w1 at *
  have ha6 := HP.out.a6
  have ha7 := HP.out.a7
  by_cases c0 : 64 < n4
  · have d0 : decide ((64 : Int) < (n4 : Int)) = true := decide_eq_true (by omega)
    have HF : Aside0 (r = false) := ⟨HRF.out.1 c0⟩
    clear c0
    go_wp2
    go_ret
    exact ⟨by rw [HF.out]; rfl, HP.out.bel⟩
  · have d0 : decide ((64 : Int) < (n4 : Int)) = false := decide_eq_false (by omega)
    by_cases c1 : 4096 < n5
    · have d1 : decide ((4096 : Int) < (n5 : Int)) = true := decide_eq_true (by omega)
      have HF : Aside0 (r = false) := ⟨HRF.out.2.1 c1⟩
      clear c0 c1
      go_wp2
      go_ret
      exact ⟨by rw [HF.out]; rfl, HP.out.bel⟩
    · have d1 : decide ((4096 : Int) < (n5 : Int)) = false := decide_eq_false (by omega)
      have HBB : Aside0 (n4 ≤ 64 ∧ n5 ≤ 4096) := ⟨by omega⟩
      clear c0 c1
      go_wp2_with fail
      clear d0 d1 ha6 ha7
      go_loopw [20] (fun v wr => ∃ x : Int, 0 ≤ x ∧ x ≤ n4 ∧ v = .int .i64 x ∧ Aside0 ((sa.take x.toNat).all okL = true) ∧ Aside0 (SK w wr (.slice A0 n0 cA0) (.slice A1 n1 cA1) (.int .i64 nl0) (.slice A2 n2 cA2) (.int .i64 nl1) (.slice A3 n3 cA3) (.slice A4 n4 cA4) (.slice A5 n5 cA5))) (fun v _ => n4 - (intOf v).toNat)
      case atStart => exact ⟨0, by omega, by omega, rfl, ⟨rfl⟩, HP⟩
      case round =>
        clear HP
        obtain ⟨x, hx0, hx1, rfl, HT, HX⟩ := hrel
        by_cases hlt : x < n4
        · have hd : decide (x < (n4 : Int)) = true := decide_eq_true hlt
          obtain ⟨ad, P, cP, e1, hg, hlP, hrP⟩ := at_S HSA.out x hx0 hlt
          cases e1
          have hg1 := pw_cell_below HX.out.bel hg
          have HSX : Aside0 (okL (rdS sa x) = true → (sa.take (x + 1).toNat).all okL = true) := ⟨all_succ_of [] okL sa hx0 (by rw [HN.out]; exact hlt) HT.out⟩
          have HFX : Aside0 (okL (rdS sa x) = false → r = false) := ⟨fun h => HRF.out.2.2.1 (all_fail_of [] okL sa hx0 (by rw [HN.out]; exact hlt) h)⟩
          generalize rdS sa x = la at *
          obtain ⟨p, hp⟩ : ∃ n, la.length = n := ⟨_, rfl⟩
          rw [hp] at hg1 hrP
          have HRP := Aside0.mk hrP
          have HPL := Aside0.mk hp
          have hw0 : wrap64 (x + 1) = x + 1 := by unfold wrap64; omega
          have p0 := eq_true hx0
          have p1 := eq_true hlt
          clear hg hlP hrP hp HT
          by_cases c0 : 64 < p
          · have d0 : decide ((64 : Int) < (p : Int)) = true := decide_eq_true (by omega)
            have HF : Aside0 (r = false) := ⟨HFX.out (by unfold okL; rw [HPL.out, decide_eq_false (show ¬ p ≤ 64 by omega)]; rfl)⟩
            clear c0
            go_wp2
            go_ret
            exact ⟨by rw [HF.out]; rfl, HX.out.bel⟩
          · have d0 : decide ((64 : Int) < (p : Int)) = false := decide_eq_false (by omega)
            have HFQ : Aside0 (la.all okQ = false → r = false) := ⟨fun h => HFX.out (by unfold okL; rw [h]; simp)⟩
            have HSQ : Aside0 (la.all okQ = true → (sa.take (x + 1).toNat).all okL = true) := ⟨fun h => HSX.out (by unfold okL; rw [h, HPL.out, decide_eq_true (show p ≤ 64 by omega)]; rfl)⟩
            have HP64 : Aside0 (p ≤ 64) := ⟨by omega⟩
            clear c0 HSX HFX
            go_wp2_with fail
            clear d0 hg1
            have HX0 := HX
            clear HX
            go_loopw [29] (fun v wr => ∃ y : Int, 0 ≤ y ∧ y ≤ p ∧ v = .int .i64 y ∧ Aside0 ((la.take y.toNat).all okQ = true) ∧ Aside0 (SK w wr (.slice A0 n0 cA0) (.slice A1 n1 cA1) (.int .i64 nl0) (.slice A2 n2 cA2) (.int .i64 nl1) (.slice A3 n3 cA3) (.slice (some ad) n4 cA4) (.slice A5 n5 cA5))) (fun v _ => p - (intOf v).toNat)
            case atStart => exact ⟨0, by omega, by omega, rfl, ⟨rfl⟩, HX0⟩
            case round =>
              clear HX0
              obtain ⟨y, hy0, hy1, rfl, HT, HX⟩ := hrel
              by_cases hlty : y < p
              · have hdy : decide (y < (p : Int)) = true := decide_eq_true hlty
                obtain ⟨ud, D, cD, e1, hu0, hu1, hu2, hu3, hlD, hrD⟩ := at_Q HRP.out y hy0 hlty
                cases e1
                have hu0 := pw_cell_below HX.out.bel hu0
                have hu1 := pw_cell_below HX.out.bel hu1
                have hu2 := pw_cell_below HX.out.bel hu2
                have hu3 := pw_cell_below HX.out.bel hu3
                have HSX : Aside0 (okQ (rdQ la y) = true → (la.take (y + 1).toNat).all okQ = true) := ⟨all_succ_of zreq okQ la hy0 (by rw [HPL.out]; exact hlty) HT.out⟩
                have HFX : Aside0 (okQ (rdQ la y) = false → r = false) := ⟨fun h => HFQ.out (all_fail_of zreq okQ la hy0 (by rw [HPL.out]; exact hlty) h)⟩
                generalize rdQ la y = u at *
                have HOK : Aside0 (okQ u = (fitB u.op && (fitB u.port && decide (u.data.length ≤ 64)))) := ⟨rfl⟩
                have hfo := fun (X : World) => fit_calls u.op X
                have hfp := fun (X : World) => fit_calls u.port X
                generalize fitB u.op = fo at *
                generalize fitB u.port = fp at *
                generalize u.op = uo at *
                generalize u.port = up at *
                generalize u.addr = ua at *
                generalize u.data.length = ul at *
                have HFO := Aside0.mk hfo
                have HFP := Aside0.mk hfp
                have hw1 : wrap64 (y + 1) = y + 1 := by
                  have := HP64.out
                  unfold wrap64
                  omega
                have p2 := eq_true hy0
                have p3 := eq_true hlty
                clear HT hlD hrD hfo hfp
                go_upto_region 11 with fail
                have HX2 := Aside0.mk (HX.out.alloc (.cells #[.int .i64 uo, .int .i64 up, .int .u64 ua, .slice D ul cD] 90))
                have HG2 := Aside0.mk (blk_new wr (.cells #[.int .i64 uo, .int .i64 up, .int .u64 ua, .slice D ul cD] 90))
                generalize wr.alloc (.cells #[.int .i64 uo, .int .i64 up, .int .u64 ua, .slice D ul cD] 90) = w2 at *
                generalize wr.heap.size = g2 at *
                clear hu0 hu1 hu2 hu3 HX
                have hu0 := (blk_cell HG2.out 0).trans rfl
                go_wp2_with fail
                refine (HFO.out _).mono ?_
                rintro e w3 ⟨rfl, hdr⟩
                have HB3 := Aside0.mk (below_drawn0 (Below.refl w2.heap.size w2) hdr)
                have HX3 := Aside0.mk (HX2.out.to HB3.out)
                have HG3 := Aside0.mk (blk_below HG2.out HB3.out)
                clear hdr HX2 HG2 hu0 HFO HB3
                cases fo with
                | false =>
                  have HF : Aside0 (r = false) := ⟨HFX.out (by rw [HOK.out]; rfl)⟩
                  go_wp2
                  go_ret
                  exact ⟨by rw [HF.out]; rfl, HX3.out.bel⟩
                | true =>
                  have hu1 := (blk_cell HG3.out 1).trans rfl
                  go_wp2_with fail
                  refine (HFP.out _).mono ?_
                  rintro e w4 ⟨rfl, hdr⟩
                  have HB4 := Aside0.mk (below_drawn0 (Below.refl w3.heap.size w3) hdr)
                  have HX4 := Aside0.mk (HX3.out.to HB4.out)
                  have HG4 := Aside0.mk (blk_below HG3.out HB4.out)
                  clear hdr HX3 HG3 hu1 HFP HB4
                  cases fp with
                  | false =>
                    have HF : Aside0 (r = false) := ⟨HFX.out (by rw [HOK.out]; rfl)⟩
                    go_wp2
                    go_ret
                    exact ⟨by rw [HF.out]; rfl, HX4.out.bel⟩
                  | true =>
                    have hu3 := (blk_cell HG4.out 3).trans rfl
                    by_cases c0 : 64 < ul
                    · have d0 : decide ((64 : Int) < (ul : Int)) = true := decide_eq_true (by omega)
                      have HF : Aside0 (r = false) := ⟨HFX.out (by rw [HOK.out, decide_eq_false (show ¬ ul ≤ 64 by omega)]; rfl)⟩
                      clear c0
                      go_wp2
                      go_ret
                      exact ⟨by rw [HF.out]; rfl, HX4.out.bel⟩
                    · have d0 : decide ((64 : Int) < (ul : Int)) = false := decide_eq_false (by omega)
                      have HY : Aside0 ((la.take (y + 1).toNat).all okQ = true) := ⟨HSX.out (by rw [HOK.out, decide_eq_true (show ul ≤ 64 by omega)]; rfl)⟩
                      clear c0 HSX HFX
                      go_wp2
                      go_roundw
                      case rel => exact ⟨y + 1, by omega, by omega, by go_num, HY, HX4⟩
                      case measure => simp [intOf]; omega
              · obtain rfl : y = (p : Int) := by omega
                have hdy : decide ((p : Int) < (p : Int)) = false := decide_eq_false (by omega)
                have HY := Aside0.mk (HSQ.out (all_end_of HPL.out HT.out))
                clear HT hlty hy0 hy1
                go_wp2
                go_roundw
                case rel => exact ⟨x + 1, by omega, by omega, by go_num, HY, HX⟩
                case measure => simp [intOf]; omega
        · obtain rfl : x = (n4 : Int) := by omega
          have hd : decide ((n4 : Int) < (n4 : Int)) = false := decide_eq_false (by omega)
          have HF : Aside0 (r = qf) := ⟨HRF.out.2.2.2 HBB.out.1 HBB.out.2 (all_end_of HN.out HT.out)⟩
          have ha7 := HX.out.a7
          clear HT hx0 hx1 hlt
          go_wp2_with fail
          refine (HCC.out _ HX.out.bel).mono ?_
          rintro e w5 ⟨rfl, hbw⟩
          have HX5 := Aside0.mk (HX.out.to hbw)
          clear hbw HCC HX ha7
          go_wp2
          go_ret
          exact ⟨by rw [HF.out]; simp, HX5.out.bel⟩
end Go.Proofs.Ytbpmmabdjabfcaa.Script
