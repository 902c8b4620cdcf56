import Derived.Test.YtbpmmabdjabfcaaScriptTold
import Derived.Test.YtbpmmabdjabfcaaTablePure
import Derived.Test.YtbpmmabdjabfcaaTablePrint
import Derived.Test.YtbpmmabdjabfcaaConcat
/- Package script: Print, in plain words. Written by wip/scriptprint.py. -/
namespace Go.Proofs.Ytbpmmabdjabfcaa.Script
open Go.RowKit Go.Proofs.YtbpmmabdjabfcaaW.PrintWords Go.Proofs.YtbpmmabdjabfcaaW.PrintLast Go.Proofs.YtbpmmabdjabfcaaW.PrintMore Go.Proofs.Ytbpmmabdjabfcaa.Box Go.Proofs.Ytbpmmabdjabfcaa.PT Go.Proofs.Ytbpmmabdjabfcaa.Table
set_option linter.unusedSimpArgs false
set_option linter.unusedVariables false
/-! ### words -/
def fQ (q : Req) : List Int := q.op :: q.port :: q.addr % 4294967296 :: q.addr / 4294967296 :: (q.data.length : Int) :: q.data
def fL (l : List Req) : List Int := (l.length : Int) :: l.flatMap fQ
def restL (j : Job) : List Int := (j.streams.length : Int) :: (j.streams.flatMap fL ++ ((j.acts.length : Int) :: j.acts))
def jobW (j : Job) : List Int := if (printL j.cfg).length = 0 then [] else if toldP j = true then ((printL j.cfg).length : Int) :: (printL j.cfg ++ restL j) else []
/-- What a job that came in is: its numbers are of their types. -/
structure GoodJ (j : Job) : Prop where
  boots : Boots j.cfg
  addr : ∀ l ∈ j.streams, ∀ q ∈ l, 0 ≤ q.addr ∧ q.addr ≤ 18446744073709551615
  data : ∀ l ∈ j.streams, ∀ q ∈ l, Words q.data
/-! ### rows that are built -/
theorem nums_C {W : World} {g T : Nat} (ns : List Int) (hn : ns.length ≤ 1000) (h : W.heap[g]? = some (.cells (ns.map (Value.int .u32)).toArray T (0, 0))) : Kd.C (Kd.int .u32) W (some ⟨g, 0, none⟩) ns.length ns := by
  refine ⟨rfl, by omega, fun _ => ⟨⟨g, 0, none⟩, rfl, fun j y hy => ⟨[.int .u32 y], rfl, rfl, fun q u hu => ?_⟩⟩⟩
  cases q with
  | succ q => simp at hu
  | zero =>
    simp at hu
    subst hu
    have hc := blk_cell h j
    have h2 : (ns.map (Value.int .u32)).toArray[j]? = some (.int .u32 y) := by simp [hy]
    rw [h2] at hc
    cases j <;> simpa [Addr.add, Kd.int, Kd.scalar] using hc
theorem three_slices {W : World} {h T : Nat} {A1 A2 A3 : Option Addr} {c1 c2 c3 : Nat} {x1 x2 x3 : List Int} (hb : W.heap[h]? = some (.cells #[.slice A1 x1.length c1, .slice A2 x2.length c2, .slice A3 x3.length c3] T (0, 0))) (h1 : Kd.C (Kd.int .u32) W A1 x1.length x1) (h2 : Kd.C (Kd.int .u32) W A2 x2.length x2) (h3 : Kd.C (Kd.int .u32) W A3 x3.length x3) (l1 : x1.length ≤ c1) (l2 : x2.length ≤ c2) (l3 : x3.length ≤ c3) :
    Kd.C (Kd.slice 43 (Kd.int .u32)) W (some ⟨h, 0, none⟩) [x1, x2, x3].length [x1, x2, x3] := by
  refine ⟨rfl, by simp, fun _ => ⟨⟨h, 0, none⟩, rfl, fun j y hy => ?_⟩⟩
  match j, hy with
  | 0, hy =>
    obtain rfl : x1 = y := by simpa using hy
    refine ⟨[.slice A1 x1.length c1], rfl, ⟨A1, c1, rfl, l1, h1⟩, fun i u hu => ?_⟩
    cases i with
    | zero => simp at hu; subst hu; exact (blk_cell hb 0).trans rfl
    | succ i => simp at hu
  | 1, hy =>
    obtain rfl : x2 = y := by simpa using hy
    refine ⟨[.slice A2 x2.length c2], rfl, ⟨A2, c2, rfl, l2, h2⟩, fun i u hu => ?_⟩
    cases i with
    | zero => simp at hu; subst hu; exact (blk_cell hb 1).trans rfl
    | succ i => simp at hu
  | 2, hy =>
    obtain rfl : x3 = y := by simpa using hy
    refine ⟨[.slice A3 x3.length c3], rfl, ⟨A3, c3, rfl, l3, h3⟩, fun i u hu => ?_⟩
    cases i with
    | zero => simp at hu; subst hu; exact (blk_cell hb 2).trans rfl
    | succ i => simp at hu
  | j + 3, hy => simp at hy
theorem join_calls (A : Option Addr) (n c : Nat) (parts : List (List Int)) (w : World) (hn : n = parts.length) (hr : Kd.C (Kd.slice 43 (Kd.int .u32)) w A parts.length parts) (hl : parts.flatten.length * 4 ≤ 140737488355328) :
    Calls Try.prog 48 #[.slice A n c] w fun e w' => ∃ v, e = .returned v ∧ Kd.R (Kd.int .u32) 43 w' w.heap.size (fun _ => True) v parts.flatten ∧ Below w.heap.size w w' := by
  have HC := Aside0.mk (concat_u32 A n c parts w hn hr hl)
  clear hn hr hl
  go_enter Try.func48, Try.ntmps48
  go_wp2_with fail
  refine HC.out.mono ?_
  rintro e w3 ⟨v, rfl, h1, h2⟩
  have H1 := Aside0.mk h1
  have H2 := Aside0.mk h2
  clear h1 h2 HC
  go_wp2
  go_ret
  exact ⟨v, rfl, H1.out, H2.out⟩
theorem flat_step_of {α : Type} (z : α) (f : α → List Int) (p : List α) {x : Int} (h0 : 0 ≤ x) (h1 : x < p.length) : (p.take (x + 1).toNat).flatMap f = (p.take x.toNat).flatMap f ++ f (p.getD x.toNat z) := by
  have e : (x + 1).toNat = x.toNat + 1 := by omega
  have l1 : x.toNat < p.length := by omega
  rw [e, List.take_succ_eq_append_getElem l1, List.flatMap_append, List.getD_eq_getElem?_getD, List.getElem?_eq_getElem l1]
  simp
theorem SK.tob {w W W' : World} {x0 x1 x2 x3 x4 x5 x6 x7 : Value} (h : SK w W x0 x1 x2 x3 x4 x5 x6 x7) (hb : Below (w.heap.size + 1) W W') : SK w W' x0 x1 x2 x3 x4 x5 x6 x7 := ⟨(hb.block _ (Nat.lt_succ_self _)).trans h.ba, h.bel.trans (hb.mono (Nat.le_succ _))⟩
theorem SK.size {w W : World} {x0 x1 x2 x3 x4 x5 x6 x7 : Value} (h : SK w W x0 x1 x2 x3 x4 x5 x6 x7) : w.heap.size + 1 ≤ W.heap.size := blk_lt h.ba
theorem u32_nat {n : Nat} (h : n ≤ 1000000) : IntKind.u32.wrap (n : Int) = (n : Int) := by
  show (n : Int) % 4294967296 = n
  omega
theorem u32_fit {v : Int} (h : fitB v = true) : IntKind.u32.wrap v = v := by
  have := of_decide_eq_true h
  show v % 4294967296 = v
  omega
/-- What Print answers. -/
def PrintPost (w : World) (l : List Int) (e : Ending) (w' : World) : Prop := ∃ A k, e = .returned (.slice A l.length k) ∧ l.length ≤ k ∧ Kd.C (Kd.int .u32) w' A l.length l ∧ Below w.heap.size w w'
set_option maxRecDepth 20000 in
set_option maxHeartbeats 8000000 in
theorem print_job {w : World} {j : Job} {A0 : Option Addr} {cA0 : Nat} {A1 : Option Addr} {cA1 : Nat} {A2 : Option Addr} {cA2 : Nat} {A3 : Option Addr} {cA3 : Nat} {A4 : Option Addr} {cA4 : Nat} {A5 : Option Addr} {cA5 : Nat} (h : IsJob w j A0 cA0 A1 cA1 A2 cA2 A3 cA3 A4 cA4 A5 cA5) (hg : GoodJ j) (hs : j.streams.length ≤ 9223372036854775807) (ha : j.acts.length ≤ 9223372036854775807) :
    Calls Try.prog 24 #[.agg #[.slice A0 j.cfg.ps.length cA0, .slice A1 j.cfg.xs.length cA1, .int .i64 j.cfg.l0, .slice A2 j.cfg.ws0.length cA2, .int .i64 j.cfg.l1, .slice A3 j.cfg.ws1.length cA3, .slice A4 j.streams.length cA4, .slice A5 j.acts.length cA5]] w fun e w' => PrintPost w (jobW j) e w' := by
  have HP := Aside0.mk (SK.start w (.slice A0 j.cfg.ps.length cA0) (.slice A1 j.cfg.xs.length cA1) (.int .i64 j.cfg.l0) (.slice A2 j.cfg.ws0.length cA2) (.int .i64 j.cfg.l1) (.slice A3 j.cfg.ws1.length cA3) (.slice A4 j.streams.length cA4) (.slice A5 j.acts.length cA5))
  have htd := fun (X : World) (hX : Below w.heap.size w X) => told_prog (h.below hX) hs ha
  have hpr := fun (X : World) (hX : Below w.heap.size w X) => print_calls (isCfg_below h.cfg hX) hg.boots
  obtain ⟨tp, htp⟩ : ∃ t, toldP j = t := ⟨_, rfl⟩
  obtain ⟨pl, hpl⟩ : ∃ l, printL j.cfg = l := ⟨_, rfl⟩
  have hpn := printL_len j.cfg
  rw [htp] at htd
  have HTP : Aside0 (tp = true → j.streams.length ≤ 64 ∧ j.acts.length ≤ 4096 ∧ j.acts.all fitB = true ∧ j.streams.all okL = true) := ⟨fun e => by
    rw [e] at htp
    unfold toldP at htp
    simp only [Bool.and_eq_true, decide_eq_true_iff] at htp
    exact ⟨htp.1.1, htp.1.2, htp.2.1, htp.2.2⟩⟩
  have HJW : Aside0 (jobW j = if pl.length = 0 then [] else if tp = true then (pl.length : Int) :: (pl ++ restL j) else []) := ⟨by unfold jobW; rw [htp, hpl]⟩
  rw [hpl] at hpr hpn
  have hre : restL j = (j.streams.length : Int) :: (j.streams.flatMap fL ++ ((j.acts.length : Int) :: j.acts)) := rfl
  have HRE := Aside0.mk hre
  generalize hjw : jobW j = jw at *
  generalize hrl : restL j = rl at *
  have hsa := h.st
  have hac := h.ac
  have had := hg.addr
  clear htp hpl hre h hg hjw hrl
  obtain ⟨n4, hn4⟩ : ∃ n, j.streams.length = n := ⟨_, rfl⟩
  obtain ⟨n5, hn5⟩ : ∃ n, j.acts.length = n := ⟨_, rfl⟩
  obtain ⟨lh, hlh⟩ : ∃ n, pl.length = n := ⟨_, rfl⟩
  rw [hn4] at HP hsa htd HTP HRE hs ⊢
  rw [hn5] at HP hac htd HTP HRE ha ⊢
  rw [hlh] at hpr hpn HJW
  generalize j.cfg.ps.length = n0 at *
  generalize j.cfg.xs.length = n1 at *
  generalize j.cfg.l0 = nl0 at *
  generalize j.cfg.ws0.length = n2 at *
  generalize j.cfg.l1 = nl1 at *
  generalize j.cfg.ws1.length = n3 at *
  generalize j.streams = sa at *
  generalize j.acts = aa at *
  have HN := Aside0.mk (And.intro hn4 hn5)
  have HLH := Aside0.mk hlh
  have HSA := Aside0.mk hsa
  have HAC := Aside0.mk hac
  have HAD := Aside0.mk had
  have HTD := Aside0.mk htd
  have HPR := Aside0.mk hpr
  have HPN := Aside0.mk hpn
  clear hn4 hn5 hlh hsa hac had htd hpr
  go_enter Try.func24, Try.ntmps24
  go_upto_region 1 with fail
  generalize w.alloc (.cells #[.slice A0 n0 cA0, .slice A1 n1 cA1, .int .i64 nl0, .slice A2 n2 cA2, .int .i64 nl1, .slice A3 n3 cA3, .slice A4 n4 cA4, .slice A5 n5 cA5] 48) = w1 at *
  have ha0 := HP.out.a0
  have ha1 := HP.out.a1
  have ha2 := HP.out.a2
  have ha3 := HP.out.a3
  have ha4 := HP.out.a4
  have ha5 := HP.out.a5
  go_wp2_with fail
  clear ha0 ha1 ha2 ha3 ha4 ha5
  refine (HPR.out _ HP.out.bel).mono ?_
  rintro e w3 ⟨Ah, kh, rfl, hkh, hrh, hbw⟩
  have HP3 := Aside0.mk (HP.out.to hbw)
  have HKH := Aside0.mk hkh
  have HRH := Aside0.mk hrh
  clear hbw HP HPR hkh hrh
  by_cases hz : lh = 0
  · have e0 : ((lh : Int) == 0) = true := by simp [hz]
    have HE : Aside0 (jw = []) := ⟨by rw [HJW.out, if_pos hz]⟩
    clear hz
    go_wp2
    go_ret
    rw [HE.out]
    exact ⟨none, 0, rfl, Nat.le_refl _, Kd.C_nil _ _, HP3.out.bel⟩
  · have e0 : ((lh : Int) == 0) = false := by simp; omega
    have HZ := Aside0.mk hz
    clear hz
    have ha0 := HP3.out.a0
    have ha1 := HP3.out.a1
    have ha2 := HP3.out.a2
    have ha3 := HP3.out.a3
    have ha4 := HP3.out.a4
    have ha5 := HP3.out.a5
    have ha6 := HP3.out.a6
    have ha7 := HP3.out.a7
    go_wp2_with fail
    clear ha0 ha1 ha2 ha3 ha4 ha5 ha6 ha7
    refine (HTD.out _ HP3.out.bel).mono ?_
    rintro e w4 ⟨rfl, hbw⟩
    have HP4 := Aside0.mk (HP3.out.to hbw)
    have HRH4 := Aside0.mk (Kd.C_below HRH.out hbw)
    clear hbw HP3 HTD HRH e0
    cases tp with
    | false =>
      have HE : Aside0 (jw = []) := ⟨by rw [HJW.out, if_neg HZ.out]; rfl⟩
      go_wp2
      go_ret
      rw [HE.out]
      exact ⟨none, 0, rfl, Nat.le_refl _, Kd.C_nil _ _, HP4.out.bel⟩
    | true =>
      have HE : Aside0 (jw = (lh : Int) :: (pl ++ rl)) := ⟨by rw [HJW.out, if_neg HZ.out]; rfl⟩
      have HT := Aside0.mk (HTP.out rfl)
      clear HTP HJW
      have ha6 := HP4.out.a6
      have hcl : IntKind.u32.wrap (lh : Int) = (lh : Int) := u32_nat (by omega)
      have hc4 : IntKind.u32.wrap (n4 : Int) = (n4 : Int) := u32_nat (by have := HT.out.1; omega)
      clear hpn
      have hk6 := kal ha6 (.cells #[.int .u32 (lh : Int)] 43)
      have hb1 := below_alloc (Below.refl _ w4) (.cells #[.int .u32 (lh : Int)] 43)
      have hb2 := below_alloc (Below.refl _ (w4.alloc (.cells #[.int .u32 (lh : Int)] 43))) (.cells #[.int .u32 (n4 : Int)] 43)
      have hb3 := below_alloc (Below.refl _ ((w4.alloc (.cells #[.int .u32 (lh : Int)] 43)).alloc (.cells #[.int .u32 (n4 : Int)] 43))) (.cells #[.slice (some ⟨w4.heap.size, 0, none⟩) 1 1, .slice Ah lh kh, .slice (some ⟨w4.heap.size + 1, 0, none⟩) 1 1] 22)
      have hg1 := blk_below (blk_below (blk_new w4 (.cells #[.int .u32 (lh : Int)] 43)) hb2) hb3
      have hg2 := blk_below (blk_new (w4.alloc (.cells #[.int .u32 (lh : Int)] 43)) (.cells #[.int .u32 (n4 : Int)] 43)) hb3
      have hg3 := blk_new ((w4.alloc (.cells #[.int .u32 (lh : Int)] 43)).alloc (.cells #[.int .u32 (n4 : Int)] 43)) (.cells #[.slice (some ⟨w4.heap.size, 0, none⟩) 1 1, .slice Ah lh kh, .slice (some ⟨w4.heap.size + 1, 0, none⟩) 1 1] 22)
      rw [World.size_alloc] at hg2
      rw [World.size_alloc, World.size_alloc] at hg3
      have hbb := hb1.trans ((hb2.trans (hb3.mono hb2.size)).mono hb1.size)
      have HP5 := Aside0.mk (HP4.out.to hbb)
      have hl1 : ([(lh : Int)] : List Int).length = 1 := rfl
      have hpl : pl.length = lh := HLH.out
      have hhr := Kd.C_below HRH4.out hbb
      have h3 := three_slices (x1 := [(lh : Int)]) (x2 := pl) (x3 := [(n4 : Int)]) (A1 := some ⟨w4.heap.size, 0, none⟩) (A2 := Ah) (A3 := some ⟨w4.heap.size + 1, 0, none⟩) (c1 := 1) (c2 := kh) (c3 := 1) (by rw [hpl]; exact hg3) (nums_C [(lh : Int)] (by simp) hg1) (by rw [hpl]; exact hhr) (nums_C [(n4 : Int)] (by simp) hg2) (Nat.le_refl 1) (by rw [hpl]; exact HKH.out) (Nat.le_refl 1)
      have hjn := join_calls (some ⟨w4.heap.size + 1 + 1, 0, none⟩) 3 3 [[(lh : Int)], pl, [(n4 : Int)]] _ rfl h3 (by simp only [List.flatten_cons, List.flatten_nil, List.length_append, List.length_cons, List.length_nil, hpl]; have := HPN.out; omega)
      have HJN := Aside0.mk hjn
      clear hb1 hb2 hb3 hg1 hg2 hg3 hbb h3 hjn hl1 hpl hhr HP4 HRH4
      go_wp2_with fail
      clear hk6 ha6 hcl hc4
      generalize ((w4.alloc (.cells #[.int .u32 (lh : Int)] 43)).alloc (.cells #[.int .u32 (n4 : Int)] 43)).alloc (.cells #[.slice (some ⟨w4.heap.size, 0, none⟩) 1 1, .slice Ah lh kh, .slice (some ⟨w4.heap.size + 1, 0, none⟩) 1 1] 22) = w5 at *
      refine HJN.out.mono ?_
      rintro e w6 ⟨v, rfl, hv, hbw⟩
      obtain ⟨Ao, co, rfl⟩ := Kd.R_slice hv
      have HP6 := Aside0.mk (HP5.out.to hbw)
      obtain ⟨pre, hpre⟩ : ∃ l : List Int, [[(lh : Int)], pl, [(n4 : Int)]].flatten = l := ⟨_, rfl⟩
      have HPRE : Aside0 (pre = (lh : Int) :: (pl ++ [(n4 : Int)])) := ⟨by rw [← hpre]; simp⟩
      rw [hpre] at hv ⊢
      have HPL : Aside0 (pre.length ≤ 1010) := ⟨by rw [HPRE.out]; simp only [List.length_cons, List.length_append, List.length_nil, HLH.out]; have := HPN.out; omega⟩
      have HO := Aside0.mk (Kd.R_lower hv HP5.out.size)
      obtain ⟨lp, hlp⟩ : ∃ n, pre.length = n := ⟨_, rfl⟩
      rw [hlp] at HO ⊢
      clear hbw HP5 HJN hv hpre hlp
      have ha6 := HP6.out.a6
      have hu := Try.underlying22
      go_wp2_with fail
      clear ha6
      go_loopw [4, 37] (fun v4 v37 wr => ∃ (x : Int) (Ao : Option Addr) (m co : Nat) (L : List Int), 0 ≤ x ∧ x ≤ n4 ∧ v4 = .slice Ao m co ∧ v37 = .int .i64 x ∧ Aside0 (SK w wr (.slice A0 n0 cA0) (.slice A1 n1 cA1) (.int .i64 nl0) (.slice A2 n2 cA2) (.int .i64 nl1) (.slice A3 n3 cA3) (.slice A4 n4 cA4) (.slice A5 n5 cA5)) ∧ Aside0 (Kd.R (Kd.int .u32) 43 wr (w.heap.size + 1) (fun _ => True) (.slice Ao m co) L) ∧ Aside0 (L = pre ++ (sa.take x.toNat).flatMap fL) ∧ Aside0 ((L.length : Int) ≤ 1010 + 4500 * x)) (fun _ v _ => n4 - (intOf v).toNat)
      case atStart => exact ⟨0, _, _, _, pre, by omega, by omega, rfl, rfl, HP6, HO, ⟨by simp⟩, ⟨by have := HPL.out; omega⟩⟩
      case round =>
        clear HP6 HO
        obtain ⟨x, Ao, m, co, L, hx0, hx1, rfl, rfl, HX, HO, HL, HN2⟩ := hrel
        by_cases hlt : x < n4
        · have hd : decide (x < (n4 : Int)) = true := decide_eq_true hlt
          obtain ⟨ad, P, cP, e1, hg, hlP, hrP⟩ := at_S HSA.out x hx0 hlt
          cases e1
          have hg1 := pw_cell_below HX.out.bel hg
          have hix : x.toNat < sa.length := by rw [HN.out.1]; omega
          have hmem : rdS sa x ∈ sa := by
            unfold rdS
            rw [List.getD_eq_getElem?_getD, List.getElem?_eq_getElem hix]
            exact List.getElem_mem hix
          have hok : okL (rdS sa x) = true := List.all_eq_true.1 HT.out.2.2.2 _ hmem
          have had := HAD.out _ hmem
          have HSN : Aside0 ((sa.take (x + 1).toNat).flatMap fL = (sa.take x.toNat).flatMap fL ++ fL (rdS sa x)) := ⟨flat_step_of [] fL sa hx0 (by rw [HN.out.1]; exact hlt)⟩
          generalize rdS sa x = la at *
          obtain ⟨p, hp⟩ : ∃ n, la.length = n := ⟨_, rfl⟩
          unfold okL at hok
          simp only [Bool.and_eq_true, decide_eq_true_iff] at hok
          rw [hp] at hg1 hrP hok
          have HRP := Aside0.mk hrP
          have HPQ := Aside0.mk hp
          have HAQ := Aside0.mk had
          have HOKQ := Aside0.mk hok.2
          have hp64 := hok.1
          have HP64 := Aside0.mk hp64
          have hcp : IntKind.u32.wrap (p : Int) = (p : Int) := u32_nat (by omega)
          have hw0 : wrap64 (x + 1) = x + 1 := by have := HT.out.1; unfold wrap64; omega
          have p0 := eq_true hx0
          have p1 := eq_true hlt
          have hlen : (L.length + 1) * 4 ≤ 140737488355328 := by have := HN2.out; have := HT.out.1; omega
          have HLEN := Aside0.mk hlen
          clear hg hix hmem hok had hrP hp hlP hp64 hlen
          go_wp2_with (at_builtin; refine Kd.R_append (Kd.int .u32) (w0 := wr) (w.heap.size + 1) rfl (.tmp 41) (.tmp 45) 22 43 (.int .u32 0) 4 rfl hu info_W rfl (by decide) (by decide) _ L (p : Int) [.int .u32 (p : Int)] (fun _ => True) (fun _ => False) rfl rfl ?aP ?aQ ?aF ?aO ?aB ?aS ?aL ?_)
          case aP => exact rfl
          case aQ => exact fun _ h => h.elim
          case aF => exact fun _ _ => trivial
          case aO => exact HO.out
          case aB => exact Below.refl _ _
          case aS => exact HX.out.size
          case aL => exact HLEN.out
          intro v1 w7 ho hb hgr hat
          obtain ⟨A7, m7, c7, rfl⟩ : ∃ A n c, v1 = .slice A n c := by
            obtain ⟨A, c, h⟩ := Kd.R_slice ho
            exact ⟨A, _, c, h⟩
          have HX7 := Aside0.mk (HX.out.tob hb)
          have HO7 := Aside0.mk ho
          have HN7 : Aside0 (((L ++ [(p : Int)]).length : Int) ≤ 1011 + 4500 * x) := ⟨by have := HN2.out; simp; omega⟩
          clear ho hb hgr hat HX HO hcp hg1 HLEN
          go_wp2_with fail
          clear hd
          go_loopw [4, 49] (fun v4 v49 wr => ∃ (y : Int) (Ao : Option Addr) (m co : Nat) (M : List Int), 0 ≤ y ∧ y ≤ p ∧ v4 = .slice Ao m co ∧ v49 = .int .i64 y ∧ Aside0 (SK w wr (.slice A0 n0 cA0) (.slice A1 n1 cA1) (.int .i64 nl0) (.slice A2 n2 cA2) (.int .i64 nl1) (.slice A3 n3 cA3) (.slice (some ad) n4 cA4) (.slice A5 n5 cA5)) ∧ Aside0 (Kd.R (Kd.int .u32) 43 wr (w.heap.size + 1) (fun _ => True) (.slice Ao m co) M) ∧ Aside0 (M = (L ++ [(p : Int)]) ++ (la.take y.toNat).flatMap fQ) ∧ Aside0 ((M.length : Int) ≤ 1011 + 4500 * x + 70 * y)) (fun _ v _ => p - (intOf v).toNat)
          case atStart => exact ⟨0, _, _, _, L ++ [(p : Int)], by omega, by omega, rfl, rfl, HX7, HO7, ⟨by simp⟩, ⟨by have := HN7.out; omega⟩⟩
          case round =>
            clear HX7 HO7 HN7
            obtain ⟨y, Ao, m, co, M, hy0, hy1, rfl, rfl, HX, HO, HM, HN3⟩ := hrel
            by_cases hlty : y < p
            · have hdy : decide (y < (p : Int)) = true := decide_eq_true hlty
              obtain ⟨ud, D, cD, e1, hu0, hu1, hu2, hu3, hlD, hrD⟩ := at_Q HRP.out y hy0 hlty
              cases e1
              have hu0 := pw_cell_below HX.out.bel hu0
              have hu1 := pw_cell_below HX.out.bel hu1
              have hu2 := pw_cell_below HX.out.bel hu2
              have hu3 := pw_cell_below HX.out.bel hu3
              have hiy : y.toNat < la.length := by rw [HPQ.out]; omega
              have hmem : rdQ la y ∈ la := by
                unfold rdQ
                rw [List.getD_eq_getElem?_getD, List.getElem?_eq_getElem hiy]
                exact List.getElem_mem hiy
              have hok : okQ (rdQ la y) = true := List.all_eq_true.1 HOKQ.out _ hmem
              have had := HAQ.out _ hmem
              have HSQ : Aside0 ((la.take (y + 1).toNat).flatMap fQ = (la.take y.toNat).flatMap fQ ++ fQ (rdQ la y)) := ⟨flat_step_of zreq fQ la hy0 (by rw [HPQ.out]; exact hlty)⟩
              generalize rdQ la y = u at *
              have hfq : fQ u = [u.op, u.port, u.addr % 4294967296, u.addr / 4294967296, (u.data.length : Int)] ++ u.data := rfl
              unfold okQ at hok
              simp only [Bool.and_eq_true, decide_eq_true_iff] at hok
              have hco := u32_fit hok.1
              have hcq := u32_fit hok.2.1
              have hul := hok.2.2
              have HDR := Aside0.mk hrD
              have HFQ := Aside0.mk hfq
              have hud : u.data.length = u.data.length := rfl
              generalize u.op = uo at *
              generalize u.port = up at *
              generalize u.addr = ua at *
              generalize hdd : u.data = dd at *
              obtain ⟨ul, hull⟩ : ∃ n, dd.length = n := ⟨_, rfl⟩
              rw [hull] at hu3 HDR hul HFQ
              have hcl : IntKind.u32.wrap (ul : Int) = (ul : Int) := u32_nat (by omega)
              have hca : IntKind.u32.wrap ua = ua % 4294967296 := rfl
              have hcs : IntKind.u32.wrap (ua / 4294967296) = ua / 4294967296 := by
                show (ua / 4294967296) % 4294967296 = ua / 4294967296
                omega
              have hw1 : wrap64 (y + 1) = y + 1 := by have := HP64.out; unfold wrap64; omega
              have p2 := eq_true hy0
              have p3 := eq_true hlty
              have HUL := Aside0.mk (And.intro hull hul)
              have HAU := Aside0.mk had
              clear hiy hmem hok had hfq hud hdd hrD hlD hull hul
              go_upto_region 12 with fail
              have HX8 := Aside0.mk (HX.out.to (below_alloc (Below.refl _ wr) (.cells #[.int .i64 uo, .int .i64 up, .int .u64 ua, .slice D ul cD] 90)))
              have HO8 := Aside0.mk (Kd.R_below HO.out (below_alloc (Below.refl _ wr) (.cells #[.int .i64 uo, .int .i64 up, .int .u64 ua, .slice D ul cD] 90)))
              have HG8 := Aside0.mk (blk_new wr (.cells #[.int .i64 uo, .int .i64 up, .int .u64 ua, .slice D ul cD] 90))
              generalize wr.alloc (.cells #[.int .i64 uo, .int .i64 up, .int .u64 ua, .slice D ul cD] 90) = w8 at *
              generalize wr.heap.size = g8 at *
              clear hu0 hu1 hu2 hu3 HX HO
              have hu0 := (blk_cell HG8.out 0).trans rfl
              have hu1 := (blk_cell HG8.out 1).trans rfl
              have hu2 := (blk_cell HG8.out 2).trans rfl
              have hu3 := (blk_cell HG8.out 3).trans rfl
              have hba := below_alloc (Below.refl _ w8) (.cells #[.int .u32 uo, .int .u32 up, .int .u32 (ua % 4294967296), .int .u32 (ua / 4294967296), .int .u32 (ul : Int)] 43)
              have HX12 := Aside0.mk (HX8.out.to hba)
              have HO12 := Aside0.mk (Kd.R_below HO8.out hba)
              have HG12 := Aside0.mk (blk_below HG8.out hba)
              have h5 := nums_C [uo, up, ua % 4294967296, ua / 4294967296, (ul : Int)] (by simp) (blk_new w8 (.cells #[.int .u32 uo, .int .u32 up, .int .u32 (ua % 4294967296), .int .u32 (ua / 4294967296), .int .u32 (ul : Int)] 43))
              have H5 : Aside0 (Kd.C (Kd.int .u32) (w8.alloc (.cells #[.int .u32 uo, .int .u32 up, .int .u32 (ua % 4294967296), .int .u32 (ua / 4294967296), .int .u32 (ul : Int)] 43)) (some ⟨w8.heap.size, 0, none⟩) 5 [uo, up, ua % 4294967296, ua / 4294967296, (ul : Int)]) := ⟨h5⟩
              have HLN : Aside0 ((M.length + 5) * 4 ≤ 140737488355328) := ⟨by have := HN3.out; have := HT.out.1; have := HP64.out; omega⟩
              clear hba h5
              go_wp2_with (at_builtin; refine Kd.R_append_rows (Kd.int .u32) (w0 := w8.alloc (.cells #[.int .u32 uo, .int .u32 up, .int .u32 (ua % 4294967296), .int .u32 (ua / 4294967296), .int .u32 (ul : Int)] 43)) (w.heap.size + 1) rfl (.tmp 53) (.tmp 71) 22 43 (.int .u32 0) 4 rfl hu info_W rfl (by decide) (by decide) (.slice Ao m co) M [uo, up, ua % 4294967296, ua / 4294967296, (ul : Int)] (some ⟨w8.heap.size, 0, none⟩) 5 5 (fun _ => True) (fun _ => False) rfl rfl HO12.out H5.out (fun _ _ h => h) (fun _ h => h.elim) (fun _ _ => trivial) (Below.refl _ _) HX12.out.size HLN.out ?_)
              intro v1 w9 ho hb hgr hat
              obtain ⟨A9, m9, c9, rfl⟩ : ∃ A n c, v1 = .slice A n c := by
                obtain ⟨A, c, h⟩ := Kd.R_slice ho
                exact ⟨A, _, c, h⟩
              have HX9 := Aside0.mk (HX12.out.tob hb)
              have HG9 := Aside0.mk ((hgr.block g8 (blk_lt HG12.out) (Kd.R_ne HO12.out HG12.out (by decide))).trans HG12.out)
              have HO9 := Aside0.mk ho
              have HD9 := Aside0.mk (Kd.C_below HDR.out HX9.out.bel)
              have HLN9 : Aside0 (((M ++ [uo, up, ua % 4294967296, ua / 4294967296, (ul : Int)]).length + ul) * 4 ≤ 140737488355328) := ⟨by
                have := HN3.out
                have := HT.out.1
                have := HP64.out
                have := HUL.out.2
                simp only [List.length_append, List.length_cons, List.length_nil]
                omega⟩
              clear ho hb hgr hat HX12 HO12 HG12 H5 HLN HX8 HO8 HG8 hu0 hu1 hu2 hu3 hca hcs hco hcq hcl
              have hu3 := (blk_cell HG9.out 3).trans rfl
              go_wp2_with (at_builtin; refine Kd.R_append_rows (Kd.int .u32) (w0 := w9) (w.heap.size + 1) rfl (.tmp 73) (.tmp 75) 22 43 (.int .u32 0) 4 rfl hu info_W rfl (by decide) (by decide) (.slice A9 m9 c9) (M ++ [uo, up, ua % 4294967296, ua / 4294967296, (ul : Int)]) dd D ul cD (fun _ => True) (fun _ => False) rfl rfl HO9.out HD9.out (fun _ _ h => h) (fun _ h => h.elim) (fun _ _ => trivial) (Below.refl _ _) HX9.out.size HLN9.out ?_)
              intro v1 w10 ho hb hgr hat
              obtain ⟨A10, m10, c10, rfl⟩ : ∃ A n c, v1 = .slice A n c := by
                obtain ⟨A, c, h⟩ := Kd.R_slice ho
                exact ⟨A, _, c, h⟩
              have HX10 := Aside0.mk (HX9.out.tob hb)
              have HO10 : Aside0 (Kd.R (Kd.int .u32) 43 w10 (w.heap.size + 1) (fun _ => True) (.slice A10 m10 c10) (M ++ [uo, up, ua % 4294967296, ua / 4294967296, (ul : Int)] ++ dd)) := ⟨by rw [show M ++ [uo, up, ua % 4294967296, ua / 4294967296, (ul : Int)] ++ dd = M ++ (uo :: up :: ua % 4294967296 :: ua / 4294967296 :: (ul : Int) :: dd) by simp]; exact ho⟩
              have HY : Aside0 (M ++ [uo, up, ua % 4294967296, ua / 4294967296, (ul : Int)] ++ dd = (L ++ [(p : Int)]) ++ (la.take (y + 1).toNat).flatMap fQ) := ⟨by
                rw [HSQ.out, HFQ.out, HM.out]
                simp only [List.append_assoc]⟩
              have HNY : Aside0 (((M ++ [uo, up, ua % 4294967296, ua / 4294967296, (ul : Int)] ++ dd).length : Int) ≤ 1011 + 4500 * x + 70 * (y + 1)) := ⟨by
                have := HN3.out
                have := HUL.out.2
                simp only [List.length_append, List.length_cons, List.length_nil, HUL.out.1]
                omega⟩
              clear ho hb hgr hat HX9 HO9 HG9 HD9 HLN9 hu3
              generalize M ++ [uo, up, ua % 4294967296, ua / 4294967296, (ul : Int)] ++ dd = N at *
              go_wp2
              go_roundw
              case rel => exact ⟨y + 1, A10, m10, c10, N, by omega, by omega, rfl, by go_num, HX10, HO10, HY, HNY⟩
              case measure => simp [intOf]; omega
            · obtain rfl : y = (p : Int) := by omega
              have hdy : decide ((p : Int) < (p : Int)) = false := decide_eq_false (by omega)
              have HY : Aside0 (M = pre ++ (sa.take (x + 1).toNat).flatMap fL) := ⟨by
                have h1 : (la.take (p : Int).toNat) = la := List.take_of_length_le (by rw [HPQ.out]; omega)
                rw [HM.out, h1, HSN.out, HL.out]
                unfold fL
                rw [HPQ.out]
                simp⟩
              have HNY : Aside0 ((M.length : Int) ≤ 1010 + 4500 * (x + 1)) := ⟨by have := HN3.out; have := HP64.out; omega⟩
              clear HM hlty hy0 hy1
              go_wp2
              go_roundw
              case rel => exact ⟨x + 1, Ao, m, co, M, by omega, by omega, rfl, by go_num, HX, HO, HY, HNY⟩
              case measure => simp [intOf]; omega
        · obtain rfl : x = (n4 : Int) := by omega
          have hd : decide ((n4 : Int) < (n4 : Int)) = false := decide_eq_false (by omega)
          have HL2 : Aside0 (L = pre ++ sa.flatMap fL) := ⟨by rw [HL.out, List.take_of_length_le (by rw [HN.out.1]; omega)]⟩
          have HN4 : Aside0 (L.length ≤ 300000) := ⟨by have := HN2.out; have := HT.out.1; omega⟩
          clear HL HN2 hlt hx0 hx1
          have ha7 := HX.out.a7
          have hc5 : IntKind.u32.wrap (n5 : Int) = (n5 : Int) := u32_nat (by have := HT.out.2.1; omega)
          have HLN : Aside0 ((L.length + 1) * 4 ≤ 140737488355328) := ⟨by have := HN4.out; omega⟩
          have hk7 := fun o => kal ha7 o
          have HK7 := Aside0.mk (kal ha7 (.cells #[.int .u32 (n5 : Int)] 43))
          clear hk7
          go_wp2_with (at_builtin; refine Kd.R_append (Kd.int .u32) (w0 := wr) (w.heap.size + 1) rfl (.tmp 79) (.tmp 84) 22 43 (.int .u32 0) 4 rfl hu info_W rfl (by decide) (by decide) _ L (n5 : Int) [.int .u32 (n5 : Int)] (fun _ => True) (fun _ => False) rfl rfl ?bP ?bQ ?bF ?bO ?bB ?bS ?bL ?_)
          case bP => exact rfl
          case bQ => exact fun _ h => h.elim
          case bF => exact fun _ _ => trivial
          case bO => exact HO.out
          case bB => exact Below.refl _ _
          case bS => exact HX.out.size
          case bL => exact HLN.out
          intro v1 w7 ho hb hgr hat
          obtain ⟨A7, m7, c7, rfl⟩ : ∃ A n c, v1 = .slice A n c := by
            obtain ⟨A, c, h⟩ := Kd.R_slice ho
            exact ⟨A, _, c, h⟩
          have HX7 := Aside0.mk (HX.out.tob hb)
          have HO7 := Aside0.mk ho
          have HN7 : Aside0 (((L ++ [(n5 : Int)]).length : Int) ≤ 300001) := ⟨by have := HN4.out; simp; omega⟩
          clear ho hb hgr hat HX HO hc5 ha7 HK7 HLN
          have ha7 := HX7.out.a7
          go_wp2_with fail
          clear hd ha7
          go_loopw [4, 89] (fun v4 v89 wr => ∃ (y : Int) (Ao : Option Addr) (m co : Nat) (M : List Int), 0 ≤ y ∧ y ≤ n5 ∧ v4 = .slice Ao m co ∧ v89 = .int .i64 y ∧ Aside0 (SK w wr (.slice A0 n0 cA0) (.slice A1 n1 cA1) (.int .i64 nl0) (.slice A2 n2 cA2) (.int .i64 nl1) (.slice A3 n3 cA3) (.slice A4 n4 cA4) (.slice A5 n5 cA5)) ∧ Aside0 (Kd.R (Kd.int .u32) 43 wr (w.heap.size + 1) (fun _ => True) (.slice Ao m co) M) ∧ Aside0 (M = (L ++ [(n5 : Int)]) ++ aa.take y.toNat) ∧ Aside0 ((M.length : Int) ≤ 300001 + y)) (fun _ v _ => n5 - (intOf v).toNat)
          case atStart => exact ⟨0, _, _, _, L ++ [(n5 : Int)], by omega, by omega, rfl, rfl, HX7, HO7, ⟨by simp⟩, ⟨by have := HN7.out; omega⟩⟩
          case round =>
            clear HX7 HO7 HN7
            obtain ⟨y, Ao, m, co, M, hy0, hy1, rfl, rfl, HX, HO, HM, HN3⟩ := hrel
            by_cases hlty : y < n5
            · have hdy : decide (y < (n5 : Int)) = true := decide_eq_true hlty
              obtain ⟨ud, e1, hu0⟩ := Kd.at_int HAC.out y hy0 hlty
              cases e1
              have hu0 := pw_cell_below HX.out.bel hu0
              have hiy : y.toNat < aa.length := by rw [HN.out.2]; omega
              have hrd : rd aa y = aa[y.toNat] := by
                unfold rd
                rw [List.getD_eq_getElem?_getD, List.getElem?_eq_getElem hiy]
                rfl
              have hok : fitB (rd aa y) = true := List.all_eq_true.1 HT.out.2.2.1 _ (by rw [hrd]; exact List.getElem_mem hiy)
              have HSQ : Aside0 (aa.take (y + 1).toNat = aa.take y.toNat ++ [rd aa y]) := ⟨by
                rw [show (y + 1).toNat = y.toNat + 1 by omega, List.take_succ_eq_append_getElem hiy, hrd]⟩
              have hcu := u32_fit hok
              generalize rd aa y = u at *
              have hw1 : wrap64 (y + 1) = y + 1 := by have := HT.out.2.1; unfold wrap64; omega
              have p2 := eq_true hy0
              have p3 := eq_true hlty
              have HLN : Aside0 ((M.length + 1) * 4 ≤ 140737488355328) := ⟨by have := HN3.out; have := HT.out.2.1; omega⟩
              clear hiy hrd hok
              go_wp2_with (at_builtin; refine Kd.R_append (Kd.int .u32) (w0 := wr) (w.heap.size + 1) rfl (.tmp 93) (.tmp 96) 22 43 (.int .u32 0) 4 rfl hu info_W rfl (by decide) (by decide) _ M u [.int .u32 u] (fun _ => True) (fun _ => False) rfl rfl ?cP ?cQ ?cF ?cO ?cB ?cS ?cL ?_)
              case cP => exact rfl
              case cQ => exact fun _ h => h.elim
              case cF => exact fun _ _ => trivial
              case cO => exact HO.out
              case cB => exact Below.refl _ _
              case cS => exact HX.out.size
              case cL => exact HLN.out
              intro v1 w8 ho hb hgr hat
              obtain ⟨A8, m8, c8, rfl⟩ : ∃ A n c, v1 = .slice A n c := by
                obtain ⟨A, c, h⟩ := Kd.R_slice ho
                exact ⟨A, _, c, h⟩
              have HX8 := Aside0.mk (HX.out.tob hb)
              have HO8 := Aside0.mk ho
              have HY : Aside0 (M ++ [u] = (L ++ [(n5 : Int)]) ++ aa.take (y + 1).toNat) := ⟨by rw [HSQ.out, HM.out]; simp only [List.append_assoc]⟩
              have HNY : Aside0 (((M ++ [u]).length : Int) ≤ 300001 + (y + 1)) := ⟨by have := HN3.out; simp; omega⟩
              clear ho hb hgr hat HX HO hcu hu0 HLN
              go_wp2
              go_roundw
              case rel => exact ⟨y + 1, A8, m8, c8, M ++ [u], by omega, by omega, rfl, by go_num, HX8, HO8, HY, HNY⟩
              case measure => simp [intOf]; omega
            · obtain rfl : y = (n5 : Int) := by omega
              have hdy : decide ((n5 : Int) < (n5 : Int)) = false := decide_eq_false (by omega)
              have HF : Aside0 (jw = M) := ⟨by
                rw [HE.out, HRE.out, HM.out, HL2.out, HPRE.out, List.take_of_length_le (by rw [HN.out.2]; omega)]
                simp⟩
              clear HM hlty hy0 hy1
              go_wp2
              go_ret
              rw [HF.out]
              obtain ⟨A, c, h1, h2, h3⟩ := Kd.R_reads HO.out
              rw [h1]
              exact ⟨A, c, rfl, h2, h3, HX.out.bel⟩
end Go.Proofs.Ytbpmmabdjabfcaa.Script
