import Derived.Test.YtbpmmabdjabfcaaScriptTold
/- Package portholeref25: Great, its answer as a function of the job. Written by wip/scriptgreat.py. -/
namespace Go.Proofs.Ytbpmmabdjabfcaa.Script
open Go.RowKit Go.Proofs.YtbpmmabdjabfcaaW.PrintWords Go.Proofs.YtbpmmabdjabfcaaW.PrintLast Go.Proofs.YtbpmmabdjabfcaaW.PrintMore Go.Proofs.Ytbpmmabdjabfcaa.Box Go.Proofs.Ytbpmmabdjabfcaa.PT Go.Proofs.Ytbpmmabdjabfcaa.Table
set_option linter.unusedSimpArgs false
set_option linter.unusedVariables false
/-- The sum that Great counts, as the machine counts it: the requests of a stream, and the streams. -/
def gI (m : Int) : List Req → Int
  | [] => m
  | u :: l => if m < 1000 then gI (wrap64 (m + (u.data.length : Int))) l else m
def gO (m : Int) : List (List Req) → Int
  | [] => m
  | l :: s => if m < 1000 then gO (gI (wrap64 (wrap64 (m + 1) + (l.length : Int))) l) s else m
def greatJ (j : Job) : Bool := greatB j.cfg || (decide (100 < j.streams.length) || (decide (5000 < j.acts.length) || decide (1000 ≤ gO 0 j.streams)))
theorem gI_step {m : Int} {x : Int} {l : List Req} (h0 : 0 ≤ x) (h1 : x < l.length) (hm : m < 1000) : gI m (l.drop x.toNat) = gI (wrap64 (m + ((rdQ l x).data.length : Int))) (l.drop (x + 1).toNat) := by
  have l1 : x.toNat < l.length := by omega
  rw [List.drop_eq_getElem_cons l1, show (x + 1).toNat = x.toNat + 1 by omega]
  have e : rdQ l x = l[x.toNat] := by unfold rdQ; rw [List.getD_eq_getElem?_getD, List.getElem?_eq_getElem l1]; rfl
  rw [e]
  show (if m < 1000 then _ else m) = _
  rw [if_pos hm]
theorem gI_stop {m : Int} {l : List Req} (hm : ¬ m < 1000) : gI m l = m := by
  cases l with
  | nil => rfl
  | cons u l =>
    show (if m < 1000 then _ else m) = m
    rw [if_neg hm]
theorem gO_step {m : Int} {x : Int} {l : List (List Req)} (h0 : 0 ≤ x) (h1 : x < l.length) (hm : m < 1000) : gO m (l.drop x.toNat) = gO (gI (wrap64 (wrap64 (m + 1) + ((rdS l x).length : Int))) (rdS l x)) (l.drop (x + 1).toNat) := by
  have l1 : x.toNat < l.length := by omega
  rw [List.drop_eq_getElem_cons l1, show (x + 1).toNat = x.toNat + 1 by omega]
  have e : rdS l x = l[x.toNat] := by unfold rdS; rw [List.getD_eq_getElem?_getD, List.getElem?_eq_getElem l1]; rfl
  rw [e]
  show (if m < 1000 then _ else m) = _
  rw [if_pos hm]
theorem gO_stop {m : Int} {l : List (List Req)} (hm : ¬ m < 1000) : gO m l = m := by
  cases l with
  | nil => rfl
  | cons u l =>
    show (if m < 1000 then _ else m) = m
    rw [if_neg hm]
set_option maxRecDepth 20000 in
set_option maxHeartbeats 8000000 in
theorem great_exact {w : World} {j : Job} {A0 : Option Addr} {cA0 : Nat} {A1 : Option Addr} {cA1 : Nat} {A2 : Option Addr} {cA2 : Nat} {A3 : Option Addr} {cA3 : Nat} {A4 : Option Addr} {cA4 : Nat} {A5 : Option Addr} {cA5 : Nat} (h : IsJob w j A0 cA0 A1 cA1 A2 cA2 A3 cA3 A4 cA4 A5 cA5) (hs : j.streams.length ≤ 9223372036854775807) (hr : ∀ l ∈ j.streams, l.length ≤ 9223372036854775807) :
    Calls Try.prog 23 #[.agg #[.slice A0 j.cfg.ps.length cA0, .slice A1 j.cfg.xs.length cA1, .int .i64 j.cfg.l0, .slice A2 j.cfg.ws0.length cA2, .int .i64 j.cfg.l1, .slice A3 j.cfg.ws1.length cA3, .slice A4 j.streams.length cA4, .slice A5 j.acts.length cA5]] w fun e w' => e = .returned (.bool (greatJ j)) ∧ Below w.heap.size w w' := by
  have HP := Aside0.mk (SK.start w (.slice A0 j.cfg.ps.length cA0) (.slice A1 j.cfg.xs.length cA1) (.int .i64 j.cfg.l0) (.slice A2 j.cfg.ws0.length cA2) (.int .i64 j.cfg.l1) (.slice A3 j.cfg.ws1.length cA3) (.slice A4 j.streams.length cA4) (.slice A5 j.acts.length cA5))
  have hgc := fun (X : World) (hX : Below w.heap.size w X) => great_calls (isCfg_below h.cfg hX)
  have hsa := h.st
  obtain ⟨gb, hgb⟩ : ∃ g, greatB j.cfg = g := ⟨_, rfl⟩
  obtain ⟨n4, hn4⟩ : ∃ n, j.streams.length = n := ⟨_, rfl⟩
  obtain ⟨n5, hn5⟩ : ∃ n, j.acts.length = n := ⟨_, rfl⟩
  rw [hgb] at hgc
  obtain ⟨r, hr⟩ : ∃ r, greatJ j = r := ⟨_, rfl⟩
  have HR : Aside0 (r = (gb || (decide (100 < n4) || (decide (5000 < n5) || decide (1000 ≤ gO 0 j.streams))))) := ⟨by rw [← hr, ← hgb, ← hn4, ← hn5]; rfl⟩
  rw [hr]
  rw [hn4] at hsa hs HP ⊢
  rw [hn5] at HP ⊢
  clear hgb hn5 hr h
  generalize j.cfg.ps.length = n0 at *
  generalize j.cfg.xs.length = n1 at *
  generalize j.cfg.l0 = nl0 at *
  generalize j.cfg.ws0.length = n2 at *
  generalize j.cfg.l1 = nl1 at *
  generalize j.cfg.ws1.length = n3 at *
  generalize j.streams = sa at *
  have HN := Aside0.mk hn4
  have HSA := Aside0.mk hsa
  have HGC := Aside0.mk hgc
  have HRL := Aside0.mk hr
  clear hgc hsa hn4 hr
  go_enter Try.func23, Try.ntmps23
  go_upto_region 1 with fail
  generalize w.alloc (.cells #[.slice A0 n0 cA0, .slice A1 n1 cA1, .int .i64 nl0, .slice A2 n2 cA2, .int .i64 nl1, .slice A3 n3 cA3, .slice A4 n4 cA4, .slice A5 n5 cA5] 48) = w1 at *
  go_cut [20] (fun s20 wx => ∃ t : Bool, s20 = .bool t ∧ Aside0 ((t = true → r = true) ∧ (t = false → r = decide (1000 ≤ gO 0 sa))) ∧ Aside0 (SK w wx (.slice A0 n0 cA0) (.slice A1 n1 cA1) (.int .i64 nl0) (.slice A2 n2 cA2) (.int .i64 nl1) (.slice A3 n3 cA3) (.slice A4 n4 cA4) (.slice A5 n5 cA5)))
  case first =>
    have ha0 := HP.out.a0
    have ha1 := HP.out.a1
    have ha2 := HP.out.a2
    have ha3 := HP.out.a3
    have ha4 := HP.out.a4
    have ha5 := HP.out.a5
    go_wp2_with fail
    clear ha0 ha1 ha2 ha3 ha4 ha5
    refine (HGC.out _ HP.out.bel).mono ?_
    rintro e w3 ⟨rfl, hbw⟩
    have HP3 := Aside0.mk (HP.out.to hbw)
    clear hbw HP HGC
    cases gb with
    | true =>
      have HF : Aside0 (r = true) := ⟨by rw [HR.out]; rfl⟩
      go_wp2
      go_meet
      exact ⟨true, by trivial, ⟨fun _ => HF.out, fun h => absurd h (by decide)⟩, HP3⟩
    | false =>
      have ha6 := HP3.out.a6
      have ha7 := HP3.out.a7
      by_cases c4 : 100 < n4
      · have hd : decide ((100 : Int) < (n4 : Int)) = true := decide_eq_true (by omega)
        have HF : Aside0 (r = true) := ⟨by rw [HR.out, decide_eq_true (show 100 < n4 from c4)]; rfl⟩
        clear c4
        go_wp2
        go_meet
        exact ⟨true, by trivial, ⟨fun _ => HF.out, fun h => absurd h (by decide)⟩, HP3⟩
      · have hd : decide ((100 : Int) < (n4 : Int)) = false := decide_eq_false (by omega)
        by_cases c5 : 5000 < n5
        · have hd5 : decide ((5000 : Int) < (n5 : Int)) = true := decide_eq_true (by omega)
          have HF : Aside0 (r = true) := ⟨by rw [HR.out, decide_eq_true (show 5000 < n5 from c5)]; simp⟩
          clear c4 c5
          go_wp2
          go_meet
          exact ⟨true, by trivial, ⟨fun _ => HF.out, fun h => absurd h (by decide)⟩, HP3⟩
        · have hd5 : decide ((5000 : Int) < (n5 : Int)) = false := decide_eq_false (by omega)
          have HF : Aside0 (r = decide (1000 ≤ gO 0 sa)) := ⟨by rw [HR.out, decide_eq_false c4, decide_eq_false c5]; rfl⟩
          clear c4 c5
          go_wp2
          go_meet
          exact ⟨false, by trivial, ⟨fun h => absurd h (by decide), fun _ => HF.out⟩, HP3⟩
  case rest =>
    obtain ⟨t, rfl, HT, HP2⟩ := hcut
    clear HP HGC
    cases t with
    | true =>
      have HF := Aside0.mk (HT.out.1 rfl)
      clear HT
      go_wp2
      go_ret
      exact ⟨by rw [HF.out]; rfl, HP2.out.bel⟩
    | false =>
      obtain ⟨G, hG⟩ : ∃ G, gO 0 sa = G := ⟨_, rfl⟩
      have HBB : Aside0 (r = decide (1000 ≤ G)) := ⟨by rw [← hG]; exact HT.out.2 rfl⟩
      have HG0 : Aside0 (gO 0 (sa.drop (0 : Int).toNat) = G) := ⟨hG⟩
      clear HT hG
      go_wp2_with fail
      go_loopw [3, 4] (fun v3 v4 wr => ∃ (m x : Int), 0 ≤ x ∧ x ≤ n4 ∧ v3 = .int .i64 m ∧ v4 = .int .i64 x ∧ Aside0 (gO m (sa.drop x.toNat) = G) ∧ Aside0 (SK w wr (.slice A0 n0 cA0) (.slice A1 n1 cA1) (.int .i64 nl0) (.slice A2 n2 cA2) (.int .i64 nl1) (.slice A3 n3 cA3) (.slice A4 n4 cA4) (.slice A5 n5 cA5))) (fun _ v _ => n4 - (intOf v).toNat)
      case atStart => exact ⟨0, 0, by omega, by omega, rfl, rfl, HG0, HP2⟩
      case round =>
        clear HP2 HG0
        obtain ⟨m, x, hx0, hx1, rfl, rfl, HM, HX⟩ := hrel
        have ha6 := HX.out.a6
        by_cases hlt : x < n4
        · have hd : decide (x < (n4 : Int)) = true := decide_eq_true hlt
          by_cases hm : m < 1000
          · have hdm : decide (m < (1000 : Int)) = true := decide_eq_true hm
            obtain ⟨ad, P, cP, e1, hg, hlP, hrP⟩ := at_S HSA.out x hx0 hlt
            cases e1
            have HG := Aside0.mk hg
            have hg1 := pw_cell_below HX.out.bel hg
            have hix : x.toNat < sa.length := by rw [HN.out]; omega
            have hrl : (rdS sa x).length ≤ 9223372036854775807 := HRL.out _ (by
              unfold rdS
              rw [List.getD_eq_getElem?_getD, List.getElem?_eq_getElem hix]
              exact List.getElem_mem hix)
            have HM2 : Aside0 (gO (gI (wrap64 (wrap64 (m + 1) + ((rdS sa x).length : Int))) (rdS sa x)) (sa.drop (x + 1).toNat) = G) := ⟨by rw [← gO_step hx0 (by rw [HN.out]; exact hlt) hm]; exact HM.out⟩
            generalize rdS sa x = la at *
            obtain ⟨p, hp⟩ : ∃ n, la.length = n := ⟨_, rfl⟩
            rw [hp] at hg1 HG hrP hrl
            have HRP := Aside0.mk hrP
            have HPL := Aside0.mk hp
            have HM3 : Aside0 (∀ t, gI (wrap64 (wrap64 (m + 1) + (p : Int))) la = t → gO t (sa.drop (x + 1).toNat) = G) := ⟨fun t ht => by rw [← ht, ← hp]; exact HM2.out⟩
            obtain ⟨T, hT⟩ : ∃ t, gI (wrap64 (wrap64 (m + 1) + (p : Int))) la = t := ⟨_, rfl⟩
            have HM4 := Aside0.mk (HM3.out T hT)
            have HT0 : Aside0 (gI (wrap64 (wrap64 (m + 1) + (p : Int))) (la.drop (0 : Int).toNat) = T) := ⟨hT⟩
            clear hT HM3 HM2 HM
            clear hg hix hlP hrP hp hm
            have p0 := eq_true hx0
            have p1 := eq_true hlt
            go_wp2_with fail
            clear hdm
            go_loopw [3, 5] (fun v3 v5 wr => ∃ (m y : Int), 0 ≤ y ∧ y ≤ p ∧ v3 = .int .i64 m ∧ v5 = .int .i64 y ∧ Aside0 (gI m (la.drop y.toNat) = T) ∧ Aside0 (SK w wr (.slice A0 n0 cA0) (.slice A1 n1 cA1) (.int .i64 nl0) (.slice A2 n2 cA2) (.int .i64 nl1) (.slice A3 n3 cA3) (.slice (some ad) n4 cA4) (.slice A5 n5 cA5))) (fun _ v _ => p - (intOf v).toNat)
            case atStart => exact ⟨_, 0, by omega, by omega, rfl, rfl, HT0, HX⟩
            case round =>
              clear HX ha6 hg1 HT0
              obtain ⟨m, y, hy0, hy1, rfl, rfl, HM, HX⟩ := hrel
              have ha6 := HX.out.a6
              have hg1 := pw_cell_below HX.out.bel HG.out
              by_cases hlty : y < p
              · have hdy : decide (y < (p : Int)) = true := decide_eq_true hlty
                by_cases hm : m < 1000
                · have hdm : decide (m < (1000 : Int)) = true := decide_eq_true hm
                  obtain ⟨ud, D, cD, e1, hu0, hu1, hu2, hu3, hlD, hrD⟩ := at_Q HRP.out y hy0 hlty
                  cases e1
                  have hu3 := pw_cell_below HX.out.bel hu3
                  have HM2 : Aside0 (gI (wrap64 (m + ((rdQ la y).data.length : Int))) (la.drop (y + 1).toNat) = T) := ⟨by rw [← gI_step hy0 (by rw [HPL.out]; exact hlty) hm]; exact HM.out⟩
                  generalize (rdQ la y).data.length = dl at *
                  clear hu0 hu1 hu2 hlD hrD hm
                  have p2 := eq_true hy0
                  have p3 := eq_true hlty
                  go_wp2
                  go_roundw
                  case rel => exact ⟨_, y + 1, by omega, by omega, rfl, by go_num, HM2, HX⟩
                  case measure => simp [intOf]; omega
                · have hdm : decide (m < (1000 : Int)) = false := decide_eq_false hm
                  have HM5 : Aside0 (gO m (sa.drop (x + 1).toNat) = G) := ⟨by have h1 := HM.out; rw [gI_stop hm] at h1; rw [h1]; exact HM4.out⟩
                  clear hm
                  go_wp2
                  go_roundw
                  case rel => exact ⟨_, x + 1, by omega, by omega, rfl, by go_num, HM5, HX⟩
                  case measure => simp [intOf]; omega
              · obtain rfl : y = (p : Int) := by omega
                have hdy : decide ((p : Int) < (p : Int)) = false := decide_eq_false (by omega)
                have HM5 : Aside0 (gO m (sa.drop (x + 1).toNat) = G) := ⟨by have h1 := HM.out; rw [List.drop_eq_nil_of_le (by rw [HPL.out]; omega)] at h1; rw [show m = T from h1]; exact HM4.out⟩
                clear hlty hy0 hy1
                go_wp2
                go_roundw
                case rel => exact ⟨_, x + 1, by omega, by omega, rfl, by go_num, HM5, HX⟩
                case measure => simp [intOf]; omega
          · have hdm : decide (m < (1000 : Int)) = false := decide_eq_false hm
            have hd1 : decide ((1000 : Int) ≤ m) = true := decide_eq_true (by omega)
            have HF : Aside0 (r = true) := ⟨by rw [HBB.out, ← HM.out, gO_stop hm]; exact hd1⟩
            clear hm HM
            go_wp2
            go_ret
            exact ⟨by rw [HF.out]; rfl, HX.out.bel⟩
        · obtain rfl : x = (n4 : Int) := by omega
          have hd : decide ((n4 : Int) < (n4 : Int)) = false := decide_eq_false (by omega)
          have HF : Aside0 (r = decide (1000 ≤ m)) := ⟨by rw [HBB.out, ← HM.out, List.drop_eq_nil_of_le (by rw [HN.out]; omega)]; rfl⟩
          clear hx0 hx1 hlt HM
          go_wp2
          go_ret
          exact ⟨by rw [HF.out]; rfl, HX.out.bel⟩
end Go.Proofs.Ytbpmmabdjabfcaa.Script
