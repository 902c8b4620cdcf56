import Derived.Test.YtbpmmabdjabfcaaScriptRead
import Derived.Test.YtbpmmabdjabfcaaTableParse
import Derived.Test.YtbpmmabdjabfcaaClone
/- Package script: config, Parse, in plain words. Written by wip/scriptparse.py. -/
namespace Go.Proofs.Ytbpmmabdjabfcaa.Script
open Go.RowKit Go.Proofs.YtbpmmabdjabfcaaW.PrintWords Go.Proofs.YtbpmmabdjabfcaaW.PrintLast Go.Proofs.YtbpmmabdjabfcaaW.PrintMore Go.Proofs.Ytbpmmabdjabfcaa.Box Go.Proofs.Ytbpmmabdjabfcaa.PT Go.Proofs.Ytbpmmabdjabfcaa.Table
set_option linter.unusedSimpArgs false
set_option linter.unusedVariables false
theorem own_vals {w : World} {base : Nat} {c : Cfg} {cs : Array Value} (h : IsOwn w base c cs) : ∃ P0 p0 d0 P1 p1 d1 P2 p2 d2 P3 p3 d3, cs = #[.slice P0 p0 d0, .slice P1 p1 d1, .int .i64 c.l0, .slice P2 p2 d2, .int .i64 c.l1, .slice P3 p3 d3] := by
  obtain ⟨v0, v1, v2, v3, rfl, h0, h1, h2, h3⟩ := h
  obtain ⟨P0, d0, rfl⟩ := Kd.R_slice h0
  obtain ⟨P1, d1, rfl⟩ := Kd.R_slice h1
  obtain ⟨P2, d2, rfl⟩ := Kd.R_slice h2
  obtain ⟨P3, d3, rfl⟩ := Kd.R_slice h3
  exact ⟨_, _, _, _, _, _, _, _, _, _, _, _, rfl⟩
def stT (q : St) (n : Int) : St := ⟨takeR q.ws n, takeS q.ws n q.s, q.e⟩
/-- The configuration, in plain words. -/
def cfP (q : St) : Cfg × St :=
  if (stW q).e = 0 then
    (if (stT (stW q) (nextV q.ws)).s = true then (zcfg, stF (stT (stW q) (nextV q.ws)) 8) else (parseR (takeV (stW q).ws (nextV q.ws)), stF (stT (stW q) (nextV q.ws)) (parseE (takeV (stW q).ws (nextV q.ws)))))
  else (zcfg, stW q)
theorem Words.takeV {ws : List Int} (h : Words ws) (n : Int) : Words (Box.takeV ws n) := by
  unfold Box.takeV
  split
  · intro x hx; cases hx
  · split
    · intro x hx; cases hx
    · intro x hx; exact h x (List.mem_of_mem_take hx)
theorem Words.takeR {ws : List Int} (h : Words ws) (n : Int) : Words (Box.takeR ws n) := by
  unfold Box.takeR
  split
  · exact h
  · split
    · exact h
    · exact h.drop _
theorem IsRd.at {w0 W W' : World} {g : Nat} {q : St} (h : IsRd w0 W g q) (hh : W'.heap[g]? = W.heap[g]?) : IsRd w0 W' g q := by
  obtain ⟨A, c, hg, r⟩ := h
  exact ⟨A, c, hh.trans hg, r⟩
theorem Rd.far6 {w0 W W1 : World} {g b : Nat} {q : St} (h : Rd w0 W g q W1) (hl : g < b) (hW : W.heap.size ≤ b) (v0 v1 v2 v3 v4 v5 : Value) : Rd w0 W g q ((((((W1.setCell ⟨b, 0, none⟩ v0).setCell ⟨b, 1, none⟩ v1).setCell ⟨b, 2, none⟩ v2).setCell ⟨b, 3, none⟩ v3).setCell ⟨b, 4, none⟩ v4).setCell ⟨b, 5, none⟩ v5) :=
  (((((h.far hl hW 0 v0).far hl hW 1 v1).far hl hW 2 v2).far hl hW 3 v3).far hl hW 4 v4).far hl hW 5 v5
theorem stp_take (w0 : World) (g : Nat) (q : St) (n : Int) (hl : q.ws.length ≤ 1000000) (W X : World) (h : Rd w0 W g q X) : Calls Try.prog 75 #[.pointer (some ⟨g, 0, none⟩), .int .i64 n] X fun e w' => ∃ A c, e = .returned (.slice A (takeV q.ws n).length c) ∧ ((takeV q.ws n).length ≤ c ∧ Kd.C (Kd.int .u32) w' A (takeV q.ws n).length (takeV q.ws n)) ∧ Rd w0 W g (stT q n) w' ∧ KeepBut X w' g none := by
  refine (take_any 95 [.int .i64 q.e] g q.ws q.s n w0 X h.rd h.bel (by omega)).mono ?_
  rintro e w' ⟨v, rfl, h1, h2, h3, h4⟩
  obtain ⟨A, c, rfl, hc, hr⟩ := Kd.R_reads h1
  exact ⟨A, c, rfl, ⟨hc, hr⟩, ⟨h2, h3, h.keep.trans h4 (.inl rfl)⟩, h4⟩
/-- A step that answers nothing. -/
def StpF (w0 : World) (g : Nat) (q : St) (c : Int) (q' : St) : Prop := ∀ W X : World, Rd w0 W g q X → Calls Try.prog 56 #[.pointer (some ⟨g, 0, none⟩), .int .i64 c] X fun e w' => e = .returned (.tuple #[]) ∧ Rd w0 W g q' w' ∧ KeepBut X w' g none
theorem stp_fault (w0 : World) (g : Nat) (q : St) (c : Int) : StpF w0 g q c (stF q c) := fun W X h => (fault_calls w0 X g q c h.rd h.bel).mono (fun _ _ r => ⟨r.1, h.more r.2, r.2.keep⟩)
/-- A configuration came. -/
structure GotCfg (w0 W : World) (g : Nat) (q : St) (e : Ending) (w' : World) : Prop where
  all : ∃ cs, e = .returned (.agg cs) ∧ IsOwn w' W.heap.size (cfP q).1 cs
  rd : Rd w0 W g (cfP q).2 w'
set_option maxRecDepth 20000 in
set_option maxHeartbeats 4000000 in
theorem config_calls (w0 W : World) (g : Nat) (q : St) (hw : Words q.ws) (hl : q.ws.length ≤ 1000000) (h : IsRd w0 W g q) (hB : Below w0.heap.size w0 W) :
    Calls Try.prog 49 #[.pointer (some ⟨g, 0, none⟩)] W fun e w' => GotCfg w0 W g q e w' := by
  have S0 := Aside0.mk (stp_num w0 g q hw)
  have hlt : (stW q).ws.length ≤ 1000000 := by show q.ws.tail.length ≤ _; rw [List.length_tail]; omega
  have S1 := Aside0.mk (fun (W X : World) (h : Rd w0 W g (stW q) X) => stp_take w0 g (stW q) (nextV q.ws) hlt W X h)
  have S2 := Aside0.mk (stp_fault w0 g (stT (stW q) (nextV q.ws)) 8)
  have S3 := Aside0.mk (stp_fault w0 g (stT (stW q) (nextV q.ws)) (parseE (takeV (stW q).ws (nextV q.ws))))
  have HWV := Aside0.mk (Words.takeV (Words.stW hw) (nextV q.ws))
  have HP : Aside0 (cfP q = (if (stW q).e = 0 then (if (stT (stW q) (nextV q.ws)).s = true then (zcfg, stF (stT (stW q) (nextV q.ws)) 8) else (parseR (takeV (stW q).ws (nextV q.ws)), stF (stT (stW q) (nextV q.ws)) (parseE (takeV (stW q).ws (nextV q.ws))))) else (zcfg, stW q))) := ⟨rfl⟩
  have HLT := Aside0.mk h.lt
  have hb0 := below_alloc (Below.refl _ W) (.cells #[.slice none 0 0, .slice none 0 0, .int .i64 0, .slice none 0 0, .int .i64 0, .slice none 0 0] 31)
  have HR : Aside0 (Rd w0 W g q (W.alloc (.cells #[.slice none 0 0, .slice none 0 0, .int .i64 0, .slice none 0 0, .int .i64 0, .slice none 0 0] 31))) := ⟨⟨h.to hb0, hB.trans (hb0.mono hB.size), KeepBut.of_below hb0 g none⟩⟩
  have HG := Aside0.mk (blk_new W (.cells #[.slice none 0 0, .slice none 0 0, .int .i64 0, .slice none 0 0, .int .i64 0, .slice none 0 0] 31))
  clear h hB hb0 hw hl hlt
  generalize takeV (stW q).ws (nextV q.ws) = ts at *
  generalize hst : stT (stW q) (nextV q.ws) = q2 at *
  generalize nextV q.ws = n at *
  generalize hsq : stW q = q1 at *
  clear hst hsq
  obtain ⟨ws1, s1, e1⟩ := q1
  obtain ⟨ws2, s2, e2⟩ := q2
  go_enter Try.func49, Try.ntmps49
  go_wp2_with fail
  refine (S0.out W _ HR.out).mono ?_
  rintro e w1 ⟨rfl, h1, hk⟩
  have HG := Aside0.mk (hk.blk HG.out (Nat.ne_of_gt HLT.out) (by simp))
  have HR := Aside0.mk h1
  clear h1 hk S0
  have hc2 := HR.out.rd.c2
  by_cases he : e1 = 0
  · subst he
    go_wp2_with fail
    clear hc2
    refine (S1.out W _ HR.out).mono ?_
    rintro e w2 ⟨A, c, rfl, hts, h1, hk⟩
    have HG := Aside0.mk (hk.blk HG.out (Nat.ne_of_gt HLT.out) (by simp))
    have HR := Aside0.mk h1
    have HTS := Aside0.mk hts
    clear h1 hk hts S1
    have hc1 := HR.out.rd.c1
    obtain ⟨lt, hlt⟩ : ∃ l, ts.length = l := ⟨_, rfl⟩
    rw [hlt] at HTS
    cases s2 with
    | true =>
      have HC : Aside0 (cfP q = (zcfg, stF ⟨ws2, true, e2⟩ 8)) := ⟨by rw [HP.out]; simp⟩
      rw [hlt]
      clear HP S3
      go_wp2_with fail
      clear hc1
      refine (S2.out W _ HR.out).mono ?_
      rintro e w3 ⟨rfl, h1, hk⟩
      have HG := Aside0.mk (hk.blk HG.out (Nat.ne_of_gt HLT.out) (by simp))
      have HR := Aside0.mk h1
      clear h1 hk S2
      have hy0 := (blk_cell HG.out 0).trans rfl
      have hy1 := (blk_cell HG.out 1).trans rfl
      have hy2 := (blk_cell HG.out 2).trans rfl
      have hy3 := (blk_cell HG.out 3).trans rfl
      have hy4 := (blk_cell HG.out 4).trans rfl
      have hy5 := (blk_cell HG.out 5).trans rfl
      have hyf0 := blk_frozen HG.out 0
      have hyf1 := blk_frozen HG.out 1
      have hyf2 := blk_frozen HG.out 2
      have hyf3 := blk_frozen HG.out 3
      have hyf4 := blk_frozen HG.out 4
      have hyf5 := blk_frozen HG.out 5
      go_wp2
      have hfin := put6 HG.out (.slice none 0 0) (.slice none 0 0) (.int .i64 0) (.slice none 0 0) (.int .i64 0) (.slice none 0 0)
      have HRZ := Aside0.mk (HR.out.far6 HLT.out (Nat.le_refl _) (.slice none 0 0) (.slice none 0 0) (.int .i64 0) (.slice none 0 0) (.int .i64 0) (.slice none 0 0))
      generalize hWF : (((((w3.setCell ⟨W.heap.size, 0, none⟩ _).setCell _ _).setCell _ _).setCell _ _).setCell _ _).setCell _ _ = wz at *
      have hz0 := (blk_cell hfin 0).trans rfl
      have hz1 := (blk_cell hfin 1).trans rfl
      have hz2 := (blk_cell hfin 2).trans rfl
      have hz3 := (blk_cell hfin 3).trans rfl
      have hz4 := (blk_cell hfin 4).trans rfl
      have hz5 := (blk_cell hfin 5).trans rfl
      (try simp only [Exit.inBlock, Exit.then])
      refine bodyPost_ret (by simp [results, Try.results49, go_sem, hz0, hz1, hz2, hz3, hz4, hz5]; try rfl) rfl ?_
      exact ⟨⟨_, rfl, by rw [HC.out]; exact isOwn_zero _ _⟩, by rw [HC.out]; exact HRZ.out⟩
    | false =>
      have HC : Aside0 (cfP q = (parseR ts, stF ⟨ws2, false, e2⟩ (parseE ts))) := ⟨by rw [HP.out]; simp⟩
      have HPA := Aside0.mk (parse_own A c ts w2 HWV.out (by rw [hlt]; exact HTS.out.1) (by rw [hlt]; exact HTS.out.2))
      rw [hlt] at HPA ⊢
      clear HP S2 HTS
      go_wp2_with fail
      clear hc1
      refine HPA.out.mono ?_
      rintro e w3 ⟨cs, rfl, ho, hb⟩
      have HO3 := Aside0.mk ho
      obtain ⟨P0, p0, d0, P1, p1, d1, P2, p2, d2, P3, p3, d3, rfl⟩ := own_vals ho
      have HG3 := Aside0.mk (blk_below HG.out hb)
      have HR3 := Aside0.mk (HR.out.to hb)
      have HL3 : Aside0 (g < w2.heap.size ∧ W.heap.size < w2.heap.size ∧ w2.heap.size ≤ w3.heap.size) := ⟨HR.out.rd.lt, blk_lt HG.out, hb.size⟩
      generalize hl0 : (parseR ts).l0 = l0 at *
      generalize hl1 : (parseR ts).l1 = l1 at *
      generalize hpr : parseR ts = pr at *
      generalize parseE ts = pe at *
      clear hl0 hl1 hpr hb
      have hb4 := below_alloc (Below.refl _ w3) (.cells #[.slice P0 p0 d0, .slice P1 p1 d1, .int .i64 l0, .slice P2 p2 d2, .int .i64 l1, .slice P3 p3 d3] 31)
      have HG4 := Aside0.mk (blk_below HG3.out hb4)
      have HR4 := Aside0.mk (HR3.out.to hb4)
      have HK4 := Aside0.mk (blk_new w3 (.cells #[.slice P0 p0 d0, .slice P1 p1 d1, .int .i64 l0, .slice P2 p2 d2, .int .i64 l1, .slice P3 p3 d3] 31))
      have HO4 := Aside0.mk (HO3.out.step (fun k _ hk => hb4.block k hk))
      clear hb4 HG3 HR3 HO3
      go_wp2_with fail
      refine (S3.out W _ HR4.out).mono ?_
      rintro e w5 ⟨rfl, h1, hk⟩
      have HG := Aside0.mk (hk.blk HG4.out (Nat.ne_of_gt HLT.out) (by simp))
      have HR := Aside0.mk h1
      have HK := Aside0.mk (hk.blk HK4.out (Nat.ne_of_gt (Nat.lt_of_lt_of_le HL3.out.1 HL3.out.2.2)) (by simp))
      have HO := Aside0.mk (HO4.out.step (fun k hk1 hk2 => hk.2 k hk2 (Nat.ne_of_gt (Nat.lt_of_lt_of_le HL3.out.1 hk1)) (by simp)))
      clear h1 hk S3 HG4 HR4 HK4 HO4
      have hx0 := (blk_cell HK.out 0).trans rfl
      have hx1 := (blk_cell HK.out 1).trans rfl
      have hx2 := (blk_cell HK.out 2).trans rfl
      have hx3 := (blk_cell HK.out 3).trans rfl
      have hx4 := (blk_cell HK.out 4).trans rfl
      have hx5 := (blk_cell HK.out 5).trans rfl
      have hy0 := (blk_cell HG.out 0).trans rfl
      have hy1 := (blk_cell HG.out 1).trans rfl
      have hy2 := (blk_cell HG.out 2).trans rfl
      have hy3 := (blk_cell HG.out 3).trans rfl
      have hy4 := (blk_cell HG.out 4).trans rfl
      have hy5 := (blk_cell HG.out 5).trans rfl
      have hyf0 := blk_frozen HG.out 0
      have hyf1 := blk_frozen HG.out 1
      have hyf2 := blk_frozen HG.out 2
      have hyf3 := blk_frozen HG.out 3
      have hyf4 := blk_frozen HG.out 4
      have hyf5 := blk_frozen HG.out 5
      go_wp2
      have hfin := put6 HG.out (.slice P0 p0 d0) (.slice P1 p1 d1) (.int .i64 l0) (.slice P2 p2 d2) (.int .i64 l1) (.slice P3 p3 d3)
      have HRZ := Aside0.mk (HR.out.far6 HLT.out (Nat.le_refl _) (.slice P0 p0 d0) (.slice P1 p1 d1) (.int .i64 l0) (.slice P2 p2 d2) (.int .i64 l1) (.slice P3 p3 d3))
      have HOZ := Aside0.mk ((HO.out.step (w1 := (((((w5.setCell ⟨W.heap.size, 0, none⟩ (.slice P0 p0 d0)).setCell ⟨W.heap.size, 1, none⟩ (.slice P1 p1 d1)).setCell ⟨W.heap.size, 2, none⟩ (.int .i64 l0)).setCell ⟨W.heap.size, 3, none⟩ (.slice P2 p2 d2)).setCell ⟨W.heap.size, 4, none⟩ (.int .i64 l1)).setCell ⟨W.heap.size, 5, none⟩ (.slice P3 p3 d3)) (fun k hk _ => heap6 (Nat.ne_of_gt (Nat.lt_of_lt_of_le HL3.out.2.1 hk)))).lower (Nat.le_of_lt HL3.out.2.1))
      generalize hWF : (((((w5.setCell ⟨W.heap.size, 0, none⟩ _).setCell _ _).setCell _ _).setCell _ _).setCell _ _).setCell _ _ = wz at *
      have hz0 := (blk_cell hfin 0).trans rfl
      have hz1 := (blk_cell hfin 1).trans rfl
      have hz2 := (blk_cell hfin 2).trans rfl
      have hz3 := (blk_cell hfin 3).trans rfl
      have hz4 := (blk_cell hfin 4).trans rfl
      have hz5 := (blk_cell hfin 5).trans rfl
      (try simp only [Exit.inBlock, Exit.then])
      refine bodyPost_ret (by simp [results, Try.results49, go_sem, hz0, hz1, hz2, hz3, hz4, hz5]; try rfl) rfl ?_
      exact ⟨⟨_, rfl, by rw [HC.out]; exact HOZ.out⟩, by rw [HC.out]; exact HRZ.out⟩
  · have hd : (e1 != 0) = true := by simp [he]
    have HC : Aside0 (cfP q = (zcfg, ⟨ws1, s1, e1⟩)) := ⟨by rw [HP.out]; simp [he]⟩
    clear HP S1 S2 S3 he
    have hy0 := (blk_cell HG.out 0).trans rfl
    have hy1 := (blk_cell HG.out 1).trans rfl
    have hy2 := (blk_cell HG.out 2).trans rfl
    have hy3 := (blk_cell HG.out 3).trans rfl
    have hy4 := (blk_cell HG.out 4).trans rfl
    have hy5 := (blk_cell HG.out 5).trans rfl
    have hyf0 := blk_frozen HG.out 0
    have hyf1 := blk_frozen HG.out 1
    have hyf2 := blk_frozen HG.out 2
    have hyf3 := blk_frozen HG.out 3
    have hyf4 := blk_frozen HG.out 4
    have hyf5 := blk_frozen HG.out 5
    go_wp2
    have hfin := put6 HG.out (.slice none 0 0) (.slice none 0 0) (.int .i64 0) (.slice none 0 0) (.int .i64 0) (.slice none 0 0)
    have HRZ := Aside0.mk (HR.out.far6 HLT.out (Nat.le_refl _) (.slice none 0 0) (.slice none 0 0) (.int .i64 0) (.slice none 0 0) (.int .i64 0) (.slice none 0 0))
    generalize hWF : (((((w1.setCell ⟨W.heap.size, 0, none⟩ _).setCell _ _).setCell _ _).setCell _ _).setCell _ _).setCell _ _ = wz at *
    have hz0 := (blk_cell hfin 0).trans rfl
    have hz1 := (blk_cell hfin 1).trans rfl
    have hz2 := (blk_cell hfin 2).trans rfl
    have hz3 := (blk_cell hfin 3).trans rfl
    have hz4 := (blk_cell hfin 4).trans rfl
    have hz5 := (blk_cell hfin 5).trans rfl
    (try simp only [Exit.inBlock, Exit.then])
    refine bodyPost_ret (by simp [results, Try.results49, go_sem, hz0, hz1, hz2, hz3, hz4, hz5]; try rfl) rfl ?_
    exact ⟨⟨_, rfl, by rw [HC.out]; exact isOwn_zero _ _⟩, by rw [HC.out]; exact HRZ.out⟩
/-! ### Parse -/
structure Job where
  cfg : Cfg
  streams : List (List Req)
  acts : List Int
def zjob : Job := ⟨zcfg, [], []⟩
/-- A job's cells; its rows are of the call's own, from base on. -/
def JobOwn (w : World) (base : Nat) (j : Job) (cs : Array Value) : Prop := ∃ v0 v1 v2 v3 v4 v5, cs = #[v0, v1, .int .i64 j.cfg.l0, v2, .int .i64 j.cfg.l1, v3, v4, v5] ∧ IsOwn w base j.cfg #[v0, v1, .int .i64 j.cfg.l0, v2, .int .i64 j.cfg.l1, v3] ∧
  Kd.R (Kd.slice 90 k90) 87 w base (fun j => base ≤ j) v4 j.streams ∧ Kd.R (Kd.int .i64) 3 w base (fun j => base ≤ j) v5 j.acts
theorem jobOwn_zero (w : World) (base : Nat) : JobOwn w base zjob #[.slice none 0 0, .slice none 0 0, .int .i64 0, .slice none 0 0, .int .i64 0, .slice none 0 0, .slice none 0 0, .slice none 0 0] := ⟨_, _, _, _, _, _, rfl, isOwn_zero w base, Kd.R_nil _ _ _ _ _, Kd.R_nil _ _ _ _ _⟩
/-- What is read, in plain words: the parts, and the state ahead of the last question. -/
def q1P (ws : List Int) : St := (cfP ⟨ws, false, 0⟩).2
def q2P (ws : List Int) : St := (lsR lqP 64 (q1P ws)).2
def q3P (ws : List Int) : St := (lsR oneW 4096 (q2P ws)).2
def doneS (q : St) : Bool := decide (q.ws.length = 0) && !q.s
def q4P (ws : List Int) : St := if (q3P ws).e = 0 ∧ doneS (q3P ws) = false then stF (q3P ws) 9 else q3P ws
def jobR (ws : List Int) : Job := ⟨(cfP ⟨ws, false, 0⟩).1, (lsR lqP 64 (q1P ws)).1, (lsR oneW 4096 (q2P ws)).1⟩
def jobE (ws : List Int) : Int := (q4P ws).e
def jobJ (ws : List Int) : Job := if jobE ws = 0 then jobR ws else zjob
theorem cfP_words {q : St} (h : Words q.ws) : Words (cfP q).2.ws := by
  unfold cfP
  split
  · split
    · exact Words.stF (Words.takeR (Words.stW h) _) 8
    · exact Words.stF (Words.takeR (Words.stW h) _) _
  · exact Words.stW h
theorem done_calls (w0 X : World) (g : Nat) (q : St) (h : IsRd w0 X g q) : Calls Try.prog 37 #[.pointer (some ⟨g, 0, none⟩)] X fun e w' => e = .returned (.bool (doneS q)) ∧ X = w' := by
  obtain ⟨A, c, hg, _⟩ := h
  exact done_reads g A q.ws.length c q.s X ((blk_cell hg 0).trans rfl) ((blk_cell hg 1).trans rfl)
theorem put8 {W : World} {g T : Nat} {u0 u1 u2 u3 u4 u5 u6 u7 : Value} (hg : W.heap[g]? = some (.cells #[u0, u1, u2, u3, u4, u5, u6, u7] T (0, 0))) (v0 v1 v2 v3 v4 v5 v6 v7 : Value) :
    ((((((((W.setCell ⟨g, 0, none⟩ v0).setCell ⟨g, 1, none⟩ v1).setCell ⟨g, 2, none⟩ v2).setCell ⟨g, 3, none⟩ v3).setCell ⟨g, 4, none⟩ v4).setCell ⟨g, 5, none⟩ v5).setCell ⟨g, 6, none⟩ v6).setCell ⟨g, 7, none⟩ v7).heap[g]? = some (.cells #[v0, v1, v2, v3, v4, v5, v6, v7] T (0, 0)) :=
by
  have h := blk_set (blk_set (blk_set (blk_set (blk_set (blk_set (blk_set (blk_set hg 0 v0) 1 v1) 2 v2) 3 v3) 4 v4) 5 v5) 6 v6) 7 v7
  simp only [List.setIfInBounds_toArray, List.set_cons_zero, List.set_cons_succ] at h
  exact h
theorem heap8 {W : World} {g j : Nat} (h : j ≠ g) {v0 v1 v2 v3 v4 v5 v6 v7 : Value} : ((((((((W.setCell ⟨g, 0, none⟩ v0).setCell ⟨g, 1, none⟩ v1).setCell ⟨g, 2, none⟩ v2).setCell ⟨g, 3, none⟩ v3).setCell ⟨g, 4, none⟩ v4).setCell ⟨g, 5, none⟩ v5).setCell ⟨g, 6, none⟩ v6).setCell ⟨g, 7, none⟩ v7).heap[j]? = W.heap[j]? := by
  rw [Below.heap_setCell _ _ _ _ h, Below.heap_setCell _ _ _ _ h, heap6 h]
theorem below8 {w W : World} {g : Nat} (hb : Below w.heap.size w W) (hg : w.heap.size ≤ g) (v0 v1 v2 v3 v4 v5 v6 v7 : Value) : Below w.heap.size w ((((((((W.setCell ⟨g, 0, none⟩ v0).setCell ⟨g, 1, none⟩ v1).setCell ⟨g, 2, none⟩ v2).setCell ⟨g, 3, none⟩ v3).setCell ⟨g, 4, none⟩ v4).setCell ⟨g, 5, none⟩ v5).setCell ⟨g, 6, none⟩ v6).setCell ⟨g, 7, none⟩ v7) :=
  below_set (below_set (below6 hb hg v0 v1 v2 v3 v4 v5) hg) hg
theorem drew_heap (w : World) : w.drew.heap = w.heap := rfl
theorem heap8d {W : World} {g j : Nat} (h : j ≠ g) {v0 v1 v2 v3 v4 v5 v6 v7 : Value} : ((((((((W.setCell ⟨g, 0, none⟩ v0).setCell ⟨g, 1, none⟩ v1).setCell ⟨g, 2, none⟩ v2).setCell ⟨g, 3, none⟩ v3).setCell ⟨g, 4, none⟩ v4).setCell ⟨g, 5, none⟩ v5).setCell ⟨g, 6, none⟩ v6).setCell ⟨g, 7, none⟩ v7).drew.heap[j]? = W.heap[j]? := by
  rw [drew_heap]
  exact heap8 h
theorem put8d {W : World} {g T : Nat} {u0 u1 u2 u3 u4 u5 u6 u7 : Value} (hg : W.heap[g]? = some (.cells #[u0, u1, u2, u3, u4, u5, u6, u7] T (0, 0))) (v0 v1 v2 v3 v4 v5 v6 v7 : Value) : ((((((((W.setCell ⟨g, 0, none⟩ v0).setCell ⟨g, 1, none⟩ v1).setCell ⟨g, 2, none⟩ v2).setCell ⟨g, 3, none⟩ v3).setCell ⟨g, 4, none⟩ v4).setCell ⟨g, 5, none⟩ v5).setCell ⟨g, 6, none⟩ v6).setCell ⟨g, 7, none⟩ v7).drew.heap[g]? = some (.cells #[v0, v1, v2, v3, v4, v5, v6, v7] T (0, 0)) := by
  rw [drew_heap]
  exact put8 hg v0 v1 v2 v3 v4 v5 v6 v7
theorem below8d {w W : World} {g : Nat} (hb : Below w.heap.size w W) (hg : w.heap.size ≤ g) (v0 v1 v2 v3 v4 v5 v6 v7 : Value) : Below w.heap.size w ((((((((W.setCell ⟨g, 0, none⟩ v0).setCell ⟨g, 1, none⟩ v1).setCell ⟨g, 2, none⟩ v2).setCell ⟨g, 3, none⟩ v3).setCell ⟨g, 4, none⟩ v4).setCell ⟨g, 5, none⟩ v5).setCell ⟨g, 6, none⟩ v6).setCell ⟨g, 7, none⟩ v7).drew := (below8 hb hg v0 v1 v2 v3 v4 v5 v6 v7).drew
/-- From a to b nothing is changed. -/
def Agr (a b : Nat) (w w1 : World) : Prop := ∀ k, a ≤ k → k < b → w1.heap[k]? = w.heap[k]?
theorem Agr.keep {a b g : Nat} {w w1 w2 : World} (h : Agr a b w w1) (hk : KeepBut w1 w2 g none) (hg : g < a) (hb : b ≤ w1.heap.size) : Agr a b w w2 := fun k h1 h2 => (hk.2 k (Nat.lt_of_lt_of_le h2 hb) (Nat.ne_of_gt (Nat.lt_of_lt_of_le hg h1)) (by simp)).trans (h k h1 h2)
theorem Agr.set {a b j i : Nat} {w w1 : World} (h : Agr a b w w1) (hj : b ≤ j) (v : Value) : Agr a b w (w1.setCell ⟨j, i, none⟩ v) := fun k h1 h2 => (Below.heap_setCell w1 ⟨j, i, none⟩ v k (Nat.ne_of_lt (Nat.lt_of_lt_of_le h2 hj))).trans (h k h1 h2)
set_option maxRecDepth 20000 in
set_option maxHeartbeats 8000000 in
theorem parse_job (A : Option Addr) (c : Nat) (ws : List Int) (W : World) (hw : Words ws) (hl : ws.length ≤ 1000000) (hc : ws.length ≤ c) (hr : Kd.C (Kd.int .u32) W A ws.length ws) :
    Calls Try.prog 26 #[.slice A ws.length c] W fun e w' => ∃ cs, e = .returned (.tuple #[.agg cs, .int .i64 (jobE ws)]) ∧ JobOwn w' W.heap.size (jobJ ws) cs ∧ Below W.heap.size W w' := by
  have hs1 : (W.alloc (.cells #[.slice none 0 0, .slice none 0 0, .int .i64 0, .slice none 0 0, .int .i64 0, .slice none 0 0, .slice none 0 0, .slice none 0 0] 48)).heap.size = W.heap.size + 1 := by simp
  have hs2 : ((W.alloc (.cells #[.slice none 0 0, .slice none 0 0, .int .i64 0, .slice none 0 0, .int .i64 0, .slice none 0 0, .slice none 0 0, .slice none 0 0] 48)).alloc (.cells #[.slice A ws.length c, .bool false, .int .i64 0] 95)).heap.size = W.heap.size + 1 + 1 := by simp
  have hs3 : (((W.alloc (.cells #[.slice none 0 0, .slice none 0 0, .int .i64 0, .slice none 0 0, .int .i64 0, .slice none 0 0, .slice none 0 0, .slice none 0 0] 48)).alloc (.cells #[.slice A ws.length c, .bool false, .int .i64 0] 95)).alloc (.cells #[.pointer (some ⟨W.heap.size + 1, 0, none⟩)] 93)).heap.size = W.heap.size + 1 + 1 + 1 := by simp
  have hb1 := below_alloc (Below.refl _ W) (.cells #[.slice none 0 0, .slice none 0 0, .int .i64 0, .slice none 0 0, .int .i64 0, .slice none 0 0, .slice none 0 0, .slice none 0 0] 48)
  have hb2 := below_alloc (Below.refl _ (W.alloc (.cells #[.slice none 0 0, .slice none 0 0, .int .i64 0, .slice none 0 0, .int .i64 0, .slice none 0 0, .slice none 0 0, .slice none 0 0] 48))) (.cells #[.slice A ws.length c, .bool false, .int .i64 0] 95)
  have hb3 := below_alloc (Below.refl _ ((W.alloc (.cells #[.slice none 0 0, .slice none 0 0, .int .i64 0, .slice none 0 0, .int .i64 0, .slice none 0 0, .slice none 0 0, .slice none 0 0] 48)).alloc (.cells #[.slice A ws.length c, .bool false, .int .i64 0] 95))) (.cells #[.pointer (some ⟨W.heap.size + 1, 0, none⟩)] 93)
  have hg2 := blk_below (blk_new (W.alloc (.cells #[.slice none 0 0, .slice none 0 0, .int .i64 0, .slice none 0 0, .int .i64 0, .slice none 0 0, .slice none 0 0, .slice none 0 0] 48)) (.cells #[.slice A ws.length c, .bool false, .int .i64 0] 95)) hb3
  rw [hs1] at hg2
  have hg1 := blk_below (blk_below (blk_new W (.cells #[.slice none 0 0, .slice none 0 0, .int .i64 0, .slice none 0 0, .int .i64 0, .slice none 0 0, .slice none 0 0, .slice none 0 0] 48)) hb2) hb3
  have hg3 := blk_new ((W.alloc (.cells #[.slice none 0 0, .slice none 0 0, .int .i64 0, .slice none 0 0, .int .i64 0, .slice none 0 0, .slice none 0 0, .slice none 0 0] 48)).alloc (.cells #[.slice A ws.length c, .bool false, .int .i64 0] 95)) (.cells #[.pointer (some ⟨W.heap.size + 1, 0, none⟩)] 93)
  rw [hs2] at hg3
  have HB := Aside0.mk (hb1.trans ((hb2.trans (hb3.mono hb2.size)).mono hb1.size))
  have HR : Aside0 (Rd W (((W.alloc (.cells #[.slice none 0 0, .slice none 0 0, .int .i64 0, .slice none 0 0, .int .i64 0, .slice none 0 0, .slice none 0 0, .slice none 0 0] 48)).alloc (.cells #[.slice A ws.length c, .bool false, .int .i64 0] 95)).alloc (.cells #[.pointer (some ⟨W.heap.size + 1, 0, none⟩)] 93)) (W.heap.size + 1) ⟨ws, false, 0⟩ (((W.alloc (.cells #[.slice none 0 0, .slice none 0 0, .int .i64 0, .slice none 0 0, .int .i64 0, .slice none 0 0, .slice none 0 0, .slice none 0 0] 48)).alloc (.cells #[.slice A ws.length c, .bool false, .int .i64 0] 95)).alloc (.cells #[.pointer (some ⟨W.heap.size + 1, 0, none⟩)] 93))) := ⟨⟨⟨A, c, hg2, Nat.le_succ _, hc, hr⟩, HB.out, KeepBut.refl _ _ _⟩⟩
  have HG := Aside0.mk hg1
  have HP := Aside0.mk hg3
  have HS : Aside0 (W.heap.size < W.heap.size + 1 ∧ W.heap.size + 1 < W.heap.size + 1 + 1 ∧ W.heap.size + 1 + 1 < (((W.alloc (.cells #[.slice none 0 0, .slice none 0 0, .int .i64 0, .slice none 0 0, .int .i64 0, .slice none 0 0, .slice none 0 0, .slice none 0 0] 48)).alloc (.cells #[.slice A ws.length c, .bool false, .int .i64 0] 95)).alloc (.cells #[.pointer (some ⟨W.heap.size + 1, 0, none⟩)] 93)).heap.size) := ⟨by rw [hs3]; omega⟩
  have HW := Aside0.mk hw
  have HL := Aside0.mk hl
  clear hb1 hb2 hb3 hg1 hg2 hg3 hs1 hs2 hs3 hr hc hw hl HB
  have HJ : Aside0 (jobJ ws = (if jobE ws = 0 then jobR ws else zjob) ∧ jobE ws = (q4P ws).e ∧ q4P ws = (if (q3P ws).e = 0 ∧ doneS (q3P ws) = false then stF (q3P ws) 9 else q3P ws)) := ⟨rfl, rfl, rfl⟩
  have HC := Aside0.mk (fun (V : World) (g : Nat) (h : Rd W V g ⟨ws, false, 0⟩ V) => config_calls W V g ⟨ws, false, 0⟩ HW.out HL.out h.rd h.bel)
  have HQ1 : Aside0 (Words (q1P ws).ws) := ⟨cfP_words HW.out⟩
  have HQ2 : Aside0 (Words (q2P ws).ws) := ⟨lsR_words (fun _ => lqP_words) 64 _ HQ1.out⟩
  generalize jobJ ws = jj at *
  generalize jobE ws = je at *
  generalize q4P ws = q4 at *
  obtain ⟨lw, hlw⟩ : ∃ l, ws.length = l := ⟨_, rfl⟩
  rw [hlw] at HR HG HP HS ⊢
  go_enter Try.func26, Try.ntmps26
  go_wp2_with fail
  generalize (((W.alloc (.cells #[.slice none 0 0, .slice none 0 0, .int .i64 0, .slice none 0 0, .int .i64 0, .slice none 0 0, .slice none 0 0, .slice none 0 0] 48)).alloc (.cells #[.slice A lw c, .bool false, .int .i64 0] 95)).alloc (.cells #[.pointer (some ⟨W.heap.size + 1, 0, none⟩)] 93)) = V at *
  generalize W.heap.size + 1 + 1 = gp at *
  generalize W.heap.size + 1 = g at *
  refine (HC.out V g HR.out).mono ?_
  rintro e w4 ⟨⟨cs, rfl, ho⟩, h1⟩
  have hnr := Nat.ne_of_lt HS.out.1
  have HNR := Aside0.mk hnr
  have HNP := Aside0.mk (Nat.ne_of_gt HS.out.2.1)
  have HG4 := Aside0.mk (h1.keep.blk HG.out hnr (by simp))
  have HP4 := Aside0.mk (h1.keep.blk HP.out HNP.out (by simp))
  have HO4 := Aside0.mk ho
  obtain ⟨P0, p0, d0, P1, p1, d1, P2, p2, d2, P3, p3, d3, rfl⟩ := own_vals ho
  have HR4 : Aside0 (Rd W V g (q1P ws) w4) := ⟨h1⟩
  have HJL : Aside0 (V.heap.size ≤ w4.heap.size) := ⟨h1.keep.1⟩
  have hJR : jobR ws = ⟨(cfP ⟨ws, false, 0⟩).1, (lsR lqP 64 (q1P ws)).1, (lsR oneW 4096 (q2P ws)).1⟩ := rfl
  have HJR := Aside0.mk hJR
  generalize (cfP ⟨ws, false, 0⟩).1 = cf at *
  clear h1 ho HG HP HR HC hJR hnr
  obtain ⟨l0, hl0⟩ : ∃ l, cf.l0 = l := ⟨_, rfl⟩
  obtain ⟨l1, hl1⟩ : ∃ l, cf.l1 = l := ⟨_, rfl⟩
  rw [hl0, hl1] at HO4 ⊢
  have HLL := Aside0.mk (And.intro hl0 hl1)
  clear hl0 hl1
  have hb5 := below_alloc (Below.refl _ w4) (.cells #[.slice P0 p0 d0, .slice P1 p1 d1, .int .i64 l0, .slice P2 p2 d2, .int .i64 l1, .slice P3 p3 d3, .slice none 0 0, .slice none 0 0] 48)
  have HG5 := Aside0.mk (blk_below HG4.out hb5)
  have HP5 := Aside0.mk (blk_below HP4.out hb5)
  have HR5 := Aside0.mk (HR4.out.to hb5)
  have HJ5 := Aside0.mk (blk_new w4 (.cells #[.slice P0 p0 d0, .slice P1 p1 d1, .int .i64 l0, .slice P2 p2 d2, .int .i64 l1, .slice P3 p3 d3, .slice none 0 0, .slice none 0 0] 48))
  have HA5 : Aside0 (Agr V.heap.size w4.heap.size w4 (w4.alloc (.cells #[.slice P0 p0 d0, .slice P1 p1 d1, .int .i64 l0, .slice P2 p2 d2, .int .i64 l1, .slice P3 p3 d3, .slice none 0 0, .slice none 0 0] 48))) := ⟨fun k _ hk => hb5.block k hk⟩
  have HJB : Aside0 (w4.heap.size < (w4.alloc (.cells #[.slice P0 p0 d0, .slice P1 p1 d1, .int .i64 l0, .slice P2 p2 d2, .int .i64 l1, .slice P3 p3 d3, .slice none 0 0, .slice none 0 0] 48)).heap.size) := ⟨blk_lt HJ5.out⟩
  have HL5 := Aside0.mk (list_reqs W _ g (q1P ws) 64 (by decide) HQ1.out HR5.out.rd HR5.out.bel gp HP5.out HNP.out)
  have ha0 := (blk_cell HP5.out 0).trans rfl
  have HB5 : Aside0 (g < w4.heap.size ∧ gp < w4.heap.size ∧ W.heap.size < w4.heap.size ∧ g < V.heap.size) := ⟨by have := HS.out; have := HJL.out; omega⟩
  clear hb5 HG4 HP4 HR4
  go_wp2_with fail
  clear ha0
  generalize w4.alloc (.cells #[.slice P0 p0 d0, .slice P1 p1 d1, .int .i64 l0, .slice P2 p2 d2, .int .i64 l1, .slice P3 p3 d3, .slice none 0 0, .slice none 0 0] 48) = w5 at *
  generalize hjj : w4.heap.size = j at *
  have HJE := Aside0.mk hjj
  clear hjj
  refine HL5.out.mono ?_
  rintro e w6 ⟨As, ns, ds, rfl, ho, h1⟩
  have HR6 := Aside0.mk (HR5.out.more h1)
  have HG6 := Aside0.mk (h1.keep.blk HG5.out HNR.out (by simp))
  have HP6 := Aside0.mk (h1.keep.blk HP5.out HNP.out (by simp))
  have HJ6 := Aside0.mk (h1.keep.blk HJ5.out (Nat.ne_of_gt HB5.out.1) (by simp))
  have HA6 := Aside0.mk (HA5.out.keep h1.keep HB5.out.2.2.2 (Nat.le_of_lt HJB.out))
  have HO6 := Aside0.mk (Kd.R_mono ho (fun k hk => (Nat.lt_of_lt_of_le HJB.out hk : j + 1 ≤ k)))
  have HSZ6 : Aside0 (j + 1 ≤ w5.heap.size) := ⟨HJB.out⟩
  have hj6 : w6.cell? ⟨j, 6, none⟩ = some (.slice none 0 0) := (blk_cell HJ6.out 6).trans rfl
  have hf6 := blk_frozen HJ6.out 6
  have HJ7 := Aside0.mk ((blk_set HJ6.out 6 (.slice As ns ds)).trans rfl)
  have HG7 := Aside0.mk ((Below.heap_setCell w6 ⟨j, 6, none⟩ (.slice As ns ds) _ (Nat.ne_of_lt HB5.out.2.2.1)).trans HG6.out)
  have HP7 := Aside0.mk ((Below.heap_setCell w6 ⟨j, 6, none⟩ (.slice As ns ds) _ (Nat.ne_of_lt HB5.out.2.1)).trans HP6.out)
  have HR7 := Aside0.mk (HR6.out.far HB5.out.1 HJL.out 6 (.slice As ns ds))
  have HA7 := Aside0.mk (HA6.out.set (i := 6) (Nat.le_refl j) (.slice As ns ds))
  have HO7 := Aside0.mk (Kd.R_far (p := ⟨j, 6, none⟩) HO6.out (fun k hk => Nat.ne_of_gt hk) (.slice As ns ds))
  have HL7 := Aside0.mk (list_int W _ g (q2P ws) 4096 (by decide) HQ2.out HR7.out.rd HR7.out.bel)
  have HSZ7 : Aside0 (j < (w6.setCell ⟨j, 6, none⟩ (.slice As ns ds)).heap.size) := ⟨blk_lt HJ7.out⟩
  have ha0 := (blk_cell HP7.out 0).trans rfl
  clear ho h1 HR5 HG5 HP5 HJ5 HA5 HL5 HR6 HG6 HP6 HJ6 HA6 HO6
  go_wp2_with fail
  clear ha0 hj6 hf6
  generalize w6.setCell ⟨j, 6, none⟩ (.slice As ns ds) = w7 at *
  refine HL7.out.mono ?_
  rintro e w8 ⟨Aa, na, da, rfl, ho, h1⟩
  have HR8 : Aside0 (Rd W V g (q3P ws) w8) := ⟨HR7.out.more h1⟩
  have HG8 := Aside0.mk (h1.keep.blk HG7.out HNR.out (by simp))
  have HP8 := Aside0.mk (h1.keep.blk HP7.out HNP.out (by simp))
  have HJ8 := Aside0.mk (h1.keep.blk HJ7.out (Nat.ne_of_gt HB5.out.1) (by simp))
  have HA8 := Aside0.mk (HA7.out.keep h1.keep HB5.out.2.2.2 (Nat.le_of_lt HSZ7.out))
  have HO8 := Aside0.mk (Kd.R_keep HO7.out h1.keep (fun k hk => Nat.ne_of_gt (Nat.lt_trans HB5.out.1 hk)))
  have HI8 := Aside0.mk (Kd.R_mono ho (fun k hk => (Nat.lt_of_lt_of_le HSZ7.out hk : j + 1 ≤ k)))
  have HSZ8 : Aside0 (j + 1 ≤ w7.heap.size) := ⟨HSZ7.out⟩
  have hj7 : w8.cell? ⟨j, 7, none⟩ = some (.slice none 0 0) := (blk_cell HJ8.out 7).trans rfl
  have hf7 := blk_frozen HJ8.out 7
  have HJ9 := Aside0.mk ((blk_set HJ8.out 7 (.slice Aa na da)).trans rfl)
  have HG9 := Aside0.mk ((Below.heap_setCell w8 ⟨j, 7, none⟩ (.slice Aa na da) _ (Nat.ne_of_lt HB5.out.2.2.1)).trans HG8.out)
  have HP9 := Aside0.mk ((Below.heap_setCell w8 ⟨j, 7, none⟩ (.slice Aa na da) _ (Nat.ne_of_lt HB5.out.2.1)).trans HP8.out)
  have HR9 := Aside0.mk (HR8.out.far HB5.out.1 HJL.out 7 (.slice Aa na da))
  have HA9 := Aside0.mk (HA8.out.set (i := 7) (Nat.le_refl j) (.slice Aa na da))
  have HO9 := Aside0.mk (Kd.R_far (p := ⟨j, 7, none⟩) HO8.out (fun k hk => Nat.ne_of_gt hk) (.slice Aa na da))
  have HI9 := Aside0.mk (Kd.R_far (p := ⟨j, 7, none⟩) HI8.out (fun k hk => Nat.ne_of_gt hk) (.slice Aa na da))
  have HD9 := Aside0.mk (done_calls W _ g (q3P ws) HR9.out.rd)
  have HF9 := Aside0.mk (stp_fault W g (q3P ws) 9)
  have ha0 := (blk_cell HP9.out 0).trans rfl
  have hc2 := HR9.out.rd.c2
  have HFE : Aside0 ((stF (q3P ws) 9).e = if (q3P ws).e = 0 then 9 else (q3P ws).e) := ⟨rfl⟩
  clear ho h1 HR7 HG7 HP7 HJ7 HA7 HO7 HL7 HR8 HG8 HP8 HJ8 HA8 HO8 HI8
  have HJ3 := Aside0.mk HJ.out
  clear HJ
  generalize hq3 : q3P ws = q3 at *
  generalize stF q3 9 = qf at *
  generalize doneS q3 = dn at *
  obtain ⟨ws3, s3, e3⟩ := q3
  by_cases he : e3 = 0
  · subst he
    go_wp2_with fail
    generalize w8.setCell ⟨j, 7, none⟩ (.slice Aa na da) = w9 at *
    refine HD9.out.mono ?_
    rintro e w10 ⟨rfl, rfl⟩
    clear HD9 hj7 hf7
    cases dn with
    | true =>
      have HJJ : Aside0 (je = 0 ∧ jj = jobR ws) := by
        obtain ⟨a, b, c⟩ := HJ3.out
        have d : je = 0 := by
          rw [b, c]
          simp
        exact ⟨⟨d, by rw [a, if_pos d]⟩⟩
      clear HJ3 HFE HF9
      have hx0 := (blk_cell HJ9.out 0).trans rfl
      have hx1 := (blk_cell HJ9.out 1).trans rfl
      have hx2 := (blk_cell HJ9.out 2).trans rfl
      have hx3 := (blk_cell HJ9.out 3).trans rfl
      have hx4 := (blk_cell HJ9.out 4).trans rfl
      have hx5 := (blk_cell HJ9.out 5).trans rfl
      have hx6 := (blk_cell HJ9.out 6).trans rfl
      have hx7 := (blk_cell HJ9.out 7).trans rfl
      have hy0 := (blk_cell HG9.out 0).trans rfl
      have hy1 := (blk_cell HG9.out 1).trans rfl
      have hy2 := (blk_cell HG9.out 2).trans rfl
      have hy3 := (blk_cell HG9.out 3).trans rfl
      have hy4 := (blk_cell HG9.out 4).trans rfl
      have hy5 := (blk_cell HG9.out 5).trans rfl
      have hy6 := (blk_cell HG9.out 6).trans rfl
      have hy7 := (blk_cell HG9.out 7).trans rfl
      have hyf0 := blk_frozen HG9.out 0
      have hyf1 := blk_frozen HG9.out 1
      have hyf2 := blk_frozen HG9.out 2
      have hyf3 := blk_frozen HG9.out 3
      have hyf4 := blk_frozen HG9.out 4
      have hyf5 := blk_frozen HG9.out 5
      have hyf6 := blk_frozen HG9.out 6
      have hyf7 := blk_frozen HG9.out 7
      go_wp2
      have hfin := put8 HG9.out (.slice P0 p0 d0) (.slice P1 p1 d1) (.int .i64 l0) (.slice P2 p2 d2) (.int .i64 l1) (.slice P3 p3 d3) (.slice As ns ds) (.slice Aa na da)
      have hbf := below8 (HR9.out.bel) (Nat.le_refl _) (.slice P0 p0 d0) (.slice P1 p1 d1) (.int .i64 l0) (.slice P2 p2 d2) (.int .i64 l1) (.slice P3 p3 d3) (.slice As ns ds) (.slice Aa na da)
      generalize hWF : (((((((w9.setCell ⟨W.heap.size, 0, none⟩ _).setCell _ _).setCell _ _).setCell _ _).setCell _ _).setCell _ _).setCell _ _).setCell _ _ = wz at *
      have hst : ∀ k, k ≠ W.heap.size → wz.heap[k]? = w9.heap[k]? := fun k hk => by rw [← hWF]; exact heap8 hk
      have HOZ := Aside0.mk ((HO4.out.step (w1 := wz) (fun k h1 h2 => (hst k (Nat.ne_of_gt (Nat.lt_of_lt_of_le (Nat.lt_trans HS.out.1 HB5.out.2.2.2) h1))).trans (HA9.out k h1 (by rw [← HJE.out]; exact h2)))).lower (Nat.le_of_lt (Nat.lt_trans HS.out.1 HB5.out.2.2.2)))
      have HSZ := Aside0.mk (Kd.R_mono (Kd.R_lower (Kd.R_step HO9.out (w1 := wz) (fun k h1 _ => hst k (Nat.ne_of_gt (Nat.lt_trans HB5.out.2.2.1 h1)))) (Nat.le_trans (Nat.le_of_lt HB5.out.2.2.1) (Nat.le_of_succ_le HSZ6.out))) (fun k hk => (Nat.le_of_lt (Nat.lt_trans HB5.out.2.2.1 hk) : W.heap.size ≤ k)))
      have HIZ := Aside0.mk (Kd.R_mono (Kd.R_lower (Kd.R_step HI9.out (w1 := wz) (fun k h1 _ => hst k (Nat.ne_of_gt (Nat.lt_trans HB5.out.2.2.1 h1)))) (Nat.le_trans (Nat.le_of_lt HB5.out.2.2.1) (Nat.le_of_succ_le HSZ8.out))) (fun k hk => (Nat.le_of_lt (Nat.lt_trans HB5.out.2.2.1 hk) : W.heap.size ≤ k)))
      have hz0 := (blk_cell hfin 0).trans rfl
      have hz1 := (blk_cell hfin 1).trans rfl
      have hz2 := (blk_cell hfin 2).trans rfl
      have hz3 := (blk_cell hfin 3).trans rfl
      have hz4 := (blk_cell hfin 4).trans rfl
      have hz5 := (blk_cell hfin 5).trans rfl
      have hz6 := (blk_cell hfin 6).trans rfl
      have hz7 := (blk_cell hfin 7).trans rfl
      (try simp only [Exit.inBlock, Exit.then])
      refine bodyPost_ret (by simp [results, Try.results26, go_sem, hz0, hz1, hz2, hz3, hz4, hz5, hz6, hz7]; try rfl) rfl ?_
      refine ⟨_, by rw [HJJ.out.1], ?_, hbf⟩
      rw [HJJ.out.2, HJR.out]
      refine ⟨.slice P0 p0 d0, .slice P1 p1 d1, .slice P2 p2 d2, .slice P3 p3 d3, .slice As ns ds, .slice Aa na da, ?_, ?_, HSZ.out, HIZ.out⟩
      · show _ = #[_, _, Value.int .i64 cf.l0, _, Value.int .i64 cf.l1, _, _, _]
        rw [HLL.out.1, HLL.out.2]
      · show IsOwn _ _ cf #[_, _, Value.int .i64 cf.l0, _, Value.int .i64 cf.l1, _]
        rw [HLL.out.1, HLL.out.2]
        exact HOZ.out
    | false =>
      have HJJ : Aside0 (je = qf.e ∧ jj = zjob ∧ qf.e ≠ 0) := by
        obtain ⟨a, b, c⟩ := HJ3.out
        have d : qf.e = 9 := by
          rw [HFE.out]
          simp
        have e : je = qf.e := by
          rw [b, c]
          simp
        exact ⟨⟨e, by rw [a, if_neg (by rw [e, d]; decide)], by rw [d]; decide⟩⟩
      clear HJ3 HFE hc2
      go_wp2_with fail
      refine (HF9.out V _ HR9.out).mono ?_
      rintro e w11 ⟨rfl, h1, hk⟩
      have HG := Aside0.mk (hk.blk HG9.out HNR.out (by simp))
      have HP := Aside0.mk (hk.blk HP9.out HNP.out (by simp))
      have HR := Aside0.mk h1
      obtain ⟨wsf, sf, ef⟩ := qf
      have he : ef ≠ 0 := HJJ.out.2.2
      clear h1 hk HF9 ha0 HG9 HP9 HR9
      have ha0 := (blk_cell HP.out 0).trans rfl
      have hc2 := HR.out.rd.c2
      have e1 : (ef != 0) = true := by simp [he]
      clear he
      go_upto_region 8 with fail
      clear ha0 hc2
      refine start_ (n := 7) (S := fun w' => w'.cell? ⟨gp, 0, none⟩ = some (.pointer (some ⟨g, 0, none⟩)) ∧ w'.cell? ⟨g, 2, none⟩ = some (.int .i64 ef)) (ds := []) #[false, false, false, false, false, false, false] (by kernel_rfl) rfl rfl ⟨(blk_cell (blk_below HP.out (below_drew1 (Below.refl _ _))) 0).trans rfl, (HR.out.rd.to (below_drew1 (Below.refl _ _))).c2⟩ (fun hHeld => ?_)
      refine pure_ (i := 0) (N := some 41) (v := ?_) (a' := ?_) #[true, false, false, false, false, false, false] rfl rfl (by kernel_rfl) (fun _ _ _ h => h) (Or.inl ⟨by rfl, ?_⟩) ?_ ?_
      rotate_left
      · intro w'
        go_simp
        with_reducible rfl
      rotate_left
      · simp only [Act.put, List.setIfInBounds_toArray, List.set_cons_zero, List.set_cons_succ, i64_w, i32_w]
        rfl
      refine take_ (i := 1) (N := some 42) (v := ?_) (a' := ?_) #[true, true, false, false, false, false, false] rfl rfl (by kernel_rfl) (fun _ _ _ h => h) (Or.inl ⟨by rfl, ?_⟩) hHeld ?_ ?_
      rotate_left
      · rintro w' ⟨s0, s1⟩
        go_simp
        with_reducible rfl
      rotate_left
      · simp only [Act.put, List.setIfInBounds_toArray, List.set_cons_zero, List.set_cons_succ, i64_w, i32_w]
        rfl
      refine pure_ (i := 2) (N := some 43) (v := ?_) (a' := ?_) #[true, true, true, false, false, false, false] rfl rfl (by kernel_rfl) (fun _ _ _ h => h) (Or.inl ⟨by rfl, ?_⟩) ?_ ?_
      rotate_left
      · intro w'
        go_simp
        with_reducible rfl
      rotate_left
      · simp only [Act.put, List.setIfInBounds_toArray, List.set_cons_zero, List.set_cons_succ, i64_w, i32_w]
        rfl
      refine pure_ (i := 3) (N := some 44) (v := ?_) (a' := ?_) #[true, true, true, true, false, false, false] rfl rfl (by kernel_rfl) (fun _ _ _ h => h) (Or.inl ⟨by rfl, ?_⟩) ?_ ?_
      rotate_left
      · intro w'
        go_simp
        with_reducible rfl
      rotate_left
      · simp only [Act.put, List.setIfInBounds_toArray, List.set_cons_zero, List.set_cons_succ, i64_w, i32_w]
        rfl
      refine take_ (i := 4) (N := some 45) (v := ?_) (a' := ?_) #[true, true, true, true, true, false, false] rfl rfl (by kernel_rfl) (fun _ _ _ h => h) (Or.inl ⟨by rfl, ?_⟩) hHeld ?_ ?_
      rotate_left
      · rintro w' ⟨s0, s1⟩
        go_simp
        with_reducible rfl
      rotate_left
      · simp only [Act.put, List.setIfInBounds_toArray, List.set_cons_zero, List.set_cons_succ, i64_w, i32_w]
        rfl
      refine one_ (i := 5) (N := none) #[true, true, true, true, true, true, false] rfl rfl (by kernel_rfl) (by decide) (fun K hK => ?_)
      have hgd := HG.out
      have hy0 := (blk_cell hgd 0).trans rfl
      have hy1 := (blk_cell hgd 1).trans rfl
      have hy2 := (blk_cell hgd 2).trans rfl
      have hy3 := (blk_cell hgd 3).trans rfl
      have hy4 := (blk_cell hgd 4).trans rfl
      have hy5 := (blk_cell hgd 5).trans rfl
      have hy6 := (blk_cell hgd 6).trans rfl
      have hy7 := (blk_cell hgd 7).trans rfl
      have hyf0 := blk_frozen hgd 0
      have hyf1 := blk_frozen hgd 1
      have hyf2 := blk_frozen hgd 2
      have hyf3 := blk_frozen hgd 3
      have hyf4 := blk_frozen hgd 4
      have hyf5 := blk_frozen hgd 5
      have hyf6 := blk_frozen hgd 6
      have hyf7 := blk_frozen hgd 7
      refine skip_ (w1 := ?_) (by rfl) rfl ?_ ?_
      rotate_left
      · go_simp
        rfl
      refine hK.out _ _ ⟨(blk_cell ((heap8d (Nat.ne_of_gt (Nat.lt_trans HS.out.1 HS.out.2.1))).trans HP.out) 0).trans rfl, (HR.out.rd.at (heap8d HNR.out.symm)).c2⟩ (fun hHeld => ?_)
      clear hK K
      refine pure_ (i := 6) (N := some 3) (v := ?_) (a' := ?_) #[true, true, true, true, true, true, true] rfl rfl (by kernel_rfl) (fun _ _ _ h => h) (Or.inl ⟨by rfl, ?_⟩) ?_ ?_
      rotate_left
      · intro w'
        go_simp
        with_reducible rfl
      rotate_left
      · simp only [Act.put, List.setIfInBounds_toArray, List.set_cons_zero, List.set_cons_succ, i64_w, i32_w]
        rfl
      refine done_ (by kernel_rfl) ?_
      go_wp2
      have hfin := put8d HG.out (.slice none 0 0) (.slice none 0 0) (.int .i64 0) (.slice none 0 0) (.int .i64 0) (.slice none 0 0) (.slice none 0 0) (.slice none 0 0)
      have hbf := below8d (HR.out.bel) (Nat.le_refl _) (.slice none 0 0) (.slice none 0 0) (.int .i64 0) (.slice none 0 0) (.int .i64 0) (.slice none 0 0) (.slice none 0 0) (.slice none 0 0)
      generalize hWF : ((((((((w11.setCell ⟨W.heap.size, 0, none⟩ _).setCell _ _).setCell _ _).setCell _ _).setCell _ _).setCell _ _).setCell _ _).setCell _ _).drew = wz at *
      have hz0 := (blk_cell hfin 0).trans rfl
      have hz1 := (blk_cell hfin 1).trans rfl
      have hz2 := (blk_cell hfin 2).trans rfl
      have hz3 := (blk_cell hfin 3).trans rfl
      have hz4 := (blk_cell hfin 4).trans rfl
      have hz5 := (blk_cell hfin 5).trans rfl
      have hz6 := (blk_cell hfin 6).trans rfl
      have hz7 := (blk_cell hfin 7).trans rfl
      (try simp only [Exit.inBlock, Exit.then])
      refine bodyPost_ret (by simp [results, Try.results26, go_sem, hz0, hz1, hz2, hz3, hz4, hz5, hz6, hz7]; try rfl) rfl ?_
      exact ⟨_, by rw [HJJ.out.1], by rw [HJJ.out.2.1]; exact jobOwn_zero _ _, hbf⟩
  · have e0 : (e3 == 0) = false := by simp [he]
    have HJJ : Aside0 (je = e3 ∧ jj = zjob) := by
      obtain ⟨a, b, c⟩ := HJ3.out
      have d : q4 = ⟨ws3, s3, e3⟩ := by
        rw [c]
        simp [he]
      have e : je = e3 := by rw [b, d]
      exact ⟨⟨e, by rw [a, if_neg (by rw [e]; exact he)]⟩⟩
    have HG := HG9
    have HP := HP9
    have HR := HR9
    clear HJ3 HFE HF9 HD9 hc2 ha0 HG9 HP9 HR9
    have ha0 := (blk_cell HP.out 0).trans rfl
    have hc2 := HR.out.rd.c2
    have e1 : (e3 != 0) = true := by simp [he]
    clear he
    go_upto_region 8 with fail
    clear ha0 hc2
    refine start_ (n := 7) (S := fun w' => w'.cell? ⟨gp, 0, none⟩ = some (.pointer (some ⟨g, 0, none⟩)) ∧ w'.cell? ⟨g, 2, none⟩ = some (.int .i64 e3)) (ds := []) #[false, false, false, false, false, false, false] (by kernel_rfl) rfl rfl ⟨(blk_cell (blk_below HP.out (below_drew1 (Below.refl _ _))) 0).trans rfl, (HR.out.rd.to (below_drew1 (Below.refl _ _))).c2⟩ (fun hHeld => ?_)
    refine pure_ (i := 0) (N := some 41) (v := ?_) (a' := ?_) #[true, false, false, false, false, false, false] rfl rfl (by kernel_rfl) (fun _ _ _ h => h) (Or.inl ⟨by rfl, ?_⟩) ?_ ?_
    rotate_left
    · intro w'
      go_simp
      with_reducible rfl
    rotate_left
    · simp only [Act.put, List.setIfInBounds_toArray, List.set_cons_zero, List.set_cons_succ, i64_w, i32_w]
      rfl
    refine take_ (i := 1) (N := some 42) (v := ?_) (a' := ?_) #[true, true, false, false, false, false, false] rfl rfl (by kernel_rfl) (fun _ _ _ h => h) (Or.inl ⟨by rfl, ?_⟩) hHeld ?_ ?_
    rotate_left
    · rintro w' ⟨s0, s1⟩
      go_simp
      with_reducible rfl
    rotate_left
    · simp only [Act.put, List.setIfInBounds_toArray, List.set_cons_zero, List.set_cons_succ, i64_w, i32_w]
      rfl
    refine pure_ (i := 2) (N := some 43) (v := ?_) (a' := ?_) #[true, true, true, false, false, false, false] rfl rfl (by kernel_rfl) (fun _ _ _ h => h) (Or.inl ⟨by rfl, ?_⟩) ?_ ?_
    rotate_left
    · intro w'
      go_simp
      with_reducible rfl
    rotate_left
    · simp only [Act.put, List.setIfInBounds_toArray, List.set_cons_zero, List.set_cons_succ, i64_w, i32_w]
      rfl
    refine pure_ (i := 3) (N := some 44) (v := ?_) (a' := ?_) #[true, true, true, true, false, false, false] rfl rfl (by kernel_rfl) (fun _ _ _ h => h) (Or.inl ⟨by rfl, ?_⟩) ?_ ?_
    rotate_left
    · intro w'
      go_simp
      with_reducible rfl
    rotate_left
    · simp only [Act.put, List.setIfInBounds_toArray, List.set_cons_zero, List.set_cons_succ, i64_w, i32_w]
      rfl
    refine take_ (i := 4) (N := some 45) (v := ?_) (a' := ?_) #[true, true, true, true, true, false, false] rfl rfl (by kernel_rfl) (fun _ _ _ h => h) (Or.inl ⟨by rfl, ?_⟩) hHeld ?_ ?_
    rotate_left
    · rintro w' ⟨s0, s1⟩
      go_simp
      with_reducible rfl
    rotate_left
    · simp only [Act.put, List.setIfInBounds_toArray, List.set_cons_zero, List.set_cons_succ, i64_w, i32_w]
      rfl
    refine one_ (i := 5) (N := none) #[true, true, true, true, true, true, false] rfl rfl (by kernel_rfl) (by decide) (fun K hK => ?_)
    have hgd := HG.out
    have hy0 := (blk_cell hgd 0).trans rfl
    have hy1 := (blk_cell hgd 1).trans rfl
    have hy2 := (blk_cell hgd 2).trans rfl
    have hy3 := (blk_cell hgd 3).trans rfl
    have hy4 := (blk_cell hgd 4).trans rfl
    have hy5 := (blk_cell hgd 5).trans rfl
    have hy6 := (blk_cell hgd 6).trans rfl
    have hy7 := (blk_cell hgd 7).trans rfl
    have hyf0 := blk_frozen hgd 0
    have hyf1 := blk_frozen hgd 1
    have hyf2 := blk_frozen hgd 2
    have hyf3 := blk_frozen hgd 3
    have hyf4 := blk_frozen hgd 4
    have hyf5 := blk_frozen hgd 5
    have hyf6 := blk_frozen hgd 6
    have hyf7 := blk_frozen hgd 7
    refine skip_ (w1 := ?_) (by rfl) rfl ?_ ?_
    rotate_left
    · go_simp
      rfl
    refine hK.out _ _ ⟨(blk_cell ((heap8d (Nat.ne_of_gt (Nat.lt_trans HS.out.1 HS.out.2.1))).trans HP.out) 0).trans rfl, (HR.out.rd.at (heap8d HNR.out.symm)).c2⟩ (fun hHeld => ?_)
    clear hK K
    refine pure_ (i := 6) (N := some 3) (v := ?_) (a' := ?_) #[true, true, true, true, true, true, true] rfl rfl (by kernel_rfl) (fun _ _ _ h => h) (Or.inl ⟨by rfl, ?_⟩) ?_ ?_
    rotate_left
    · intro w'
      go_simp
      with_reducible rfl
    rotate_left
    · simp only [Act.put, List.setIfInBounds_toArray, List.set_cons_zero, List.set_cons_succ, i64_w, i32_w]
      rfl
    refine done_ (by kernel_rfl) ?_
    go_wp2
    have hfin := put8d HG.out (.slice none 0 0) (.slice none 0 0) (.int .i64 0) (.slice none 0 0) (.int .i64 0) (.slice none 0 0) (.slice none 0 0) (.slice none 0 0)
    have hbf := below8d (HR.out.bel) (Nat.le_refl _) (.slice none 0 0) (.slice none 0 0) (.int .i64 0) (.slice none 0 0) (.int .i64 0) (.slice none 0 0) (.slice none 0 0) (.slice none 0 0)
    generalize hWF : (((((((((w8.setCell ⟨j, 7, none⟩ (.slice Aa na da)).setCell ⟨W.heap.size, 0, none⟩ _).setCell _ _).setCell _ _).setCell _ _).setCell _ _).setCell _ _).setCell _ _).setCell _ _).drew = wz at *
    have hz0 := (blk_cell hfin 0).trans rfl
    have hz1 := (blk_cell hfin 1).trans rfl
    have hz2 := (blk_cell hfin 2).trans rfl
    have hz3 := (blk_cell hfin 3).trans rfl
    have hz4 := (blk_cell hfin 4).trans rfl
    have hz5 := (blk_cell hfin 5).trans rfl
    have hz6 := (blk_cell hfin 6).trans rfl
    have hz7 := (blk_cell hfin 7).trans rfl
    (try simp only [Exit.inBlock, Exit.then])
    refine bodyPost_ret (by simp [results, Try.results26, go_sem, hz0, hz1, hz2, hz3, hz4, hz5, hz6, hz7]; try rfl) rfl ?_
    exact ⟨_, by rw [HJJ.out.1], by rw [HJJ.out.2]; exact jobOwn_zero _ _, hbf⟩
end Go.Proofs.Ytbpmmabdjabfcaa.Script
