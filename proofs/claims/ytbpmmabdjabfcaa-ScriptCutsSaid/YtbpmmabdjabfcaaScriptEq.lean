import Derived.Test.YtbpmmabdjabfcaaScriptParse
import Derived.Test.YtbpmmabdjabfcaaTableSame
/- Jobs that are read, and when two are the same, in plain words. -/
namespace Go.Proofs.Ytbpmmabdjabfcaa.Script
open Go.RowKit Go.Proofs.YtbpmmabdjabfcaaW.PrintWords Go.Proofs.YtbpmmabdjabfcaaW.PrintLast Go.Proofs.YtbpmmabdjabfcaaW.PrintMore Go.Proofs.Ytbpmmabdjabfcaa.Box Go.Proofs.Ytbpmmabdjabfcaa.PT Go.Proofs.Ytbpmmabdjabfcaa.Table
set_option linter.unusedSimpArgs false
set_option linter.unusedVariables false
theorem req_eq (x y : Req) : (x.op = y.op ∧ x.port = y.port ∧ x.addr = y.addr ∧ x.data = y.data) ↔ x = y := by
  obtain ⟨a, b, c, d⟩ := x
  obtain ⟨a', b', c', d'⟩ := y
  simp only [Req.mk.injEq]
instance : DecidableEq Req := fun x y => decidable_of_iff _ (req_eq x y)
theorem job_eq (x y : Job) : (x.cfg = y.cfg ∧ x.acts = y.acts ∧ x.streams = y.streams) ↔ x = y := by
  obtain ⟨a, b, c⟩ := x
  obtain ⟨a', b', c'⟩ := y
  simp only [Job.mk.injEq]
  constructor
  · rintro ⟨h1, h2, h3⟩
    exact ⟨h1, h3, h2⟩
  · rintro ⟨h1, h2, h3⟩
    exact ⟨h1, h3, h2⟩
instance : DecidableEq Job := fun x y => decidable_of_iff _ (job_eq x y)
/-- Streams of requests, as a kind. -/
def kL : Kd (List Req) := Kd.slice 90 k90
/-- A job's cells; its rows can be read in w. -/
structure IsJob (w : World) (j : Job) (A0 : Option Addr) (c0 : Nat) (A1 : Option Addr) (c1 : Nat) (A2 : Option Addr) (c2 : Nat) (A3 : Option Addr) (c3 : Nat) (A4 : Option Addr) (c4 : Nat) (A5 : Option Addr) (c5 : Nat) : Prop where
  cfg : IsCfg w j.cfg #[.slice A0 j.cfg.ps.length c0, .slice A1 j.cfg.xs.length c1, .int .i64 j.cfg.l0, .slice A2 j.cfg.ws0.length c2, .int .i64 j.cfg.l1, .slice A3 j.cfg.ws1.length c3]
  ls : j.streams.length ≤ c4
  st : Kd.C kL w A4 j.streams.length j.streams
  la : j.acts.length ≤ c5
  ac : Kd.C (Kd.int .i64) w A5 j.acts.length j.acts
theorem IsJob.below {w w1 : World} {j : Job} {A0 A1 A2 A3 A4 A5 : Option Addr} {c0 c1 c2 c3 c4 c5 : Nat} (h : IsJob w j A0 c0 A1 c1 A2 c2 A3 c3 A4 c4 A5 c5) (hb : Below w.heap.size w w1) : IsJob w1 j A0 c0 A1 c1 A2 c2 A3 c3 A4 c4 A5 c5 :=
  ⟨isCfg_below h.cfg hb, h.ls, Kd.C_below h.st hb, h.la, Kd.C_below h.ac hb⟩
theorem JobOwn.job {w : World} {base : Nat} {j : Job} {cs : Array Value} (h : JobOwn w base j cs) : ∃ A0 c0 A1 c1 A2 c2 A3 c3 A4 c4 A5 c5, cs = #[.slice A0 j.cfg.ps.length c0, .slice A1 j.cfg.xs.length c1, .int .i64 j.cfg.l0, .slice A2 j.cfg.ws0.length c2, .int .i64 j.cfg.l1, .slice A3 j.cfg.ws1.length c3, .slice A4 j.streams.length c4, .slice A5 j.acts.length c5] ∧ IsJob w j A0 c0 A1 c1 A2 c2 A3 c3 A4 c4 A5 c5 := by
  obtain ⟨v0, v1, v2, v3, v4, v5, rfl, ho, hs, ha⟩ := h
  obtain ⟨A4, c4, rfl, l4, r4⟩ := Kd.R_reads hs
  obtain ⟨A5, c5, rfl, l5, r5⟩ := Kd.R_reads ha
  obtain ⟨A0, c0, A1, c1, A2, c2, A3, c3, e, hl, h0, h1, h2, h3⟩ := ho.cfg
  simp only [Array.mk.injEq, List.cons.injEq, and_true, true_and] at e
  obtain ⟨rfl, rfl, rfl, rfl⟩ := e
  exact ⟨A0, c0, A1, c1, A2, c2, A3, c3, A4, c4, A5, c5, rfl, ⟨⟨A0, c0, A1, c1, A2, c2, A3, c3, rfl, hl, h0, h1, h2, h3⟩, l4, r4, l5, r5⟩⟩
/-- A job that is no longer than memory may be. -/
structure ShortJ (j : Job) : Prop where
  cfg : Short j.cfg
  st : j.streams.length ≤ 9223372036854775807
  ac : j.acts.length ≤ 9223372036854775807
  rows : ∀ l ∈ j.streams, l.length ≤ 9223372036854775807
  data : ∀ l ∈ j.streams, ∀ q ∈ l, q.data.length ≤ 9223372036854775807
/-! ### rows that are read -/
def zreq : Req := ⟨0, 0, 0, []⟩
def rdQ (xs : List Req) (i : Int) : Req := xs.getD i.toNat zreq
theorem k90_open {w : World} {x : Req} {cs : List Value} (h : k90.K w x cs) : ∃ A c, cs = [.int .i64 x.op, .int .i64 x.port, .int .u64 x.addr, .slice A x.data.length c] ∧ x.data.length ≤ c ∧ Kd.C (Kd.int .u32) w A x.data.length x.data := by
  obtain ⟨_, _, rfl, rfl, ⟨_, _, rfl, rfl, ⟨_, _, rfl, rfl, ⟨A, c, rfl, hl, hc⟩⟩⟩⟩ := h
  exact ⟨A, c, rfl, hl, hc⟩
theorem at_Q {w : World} {A : Option Addr} {n : Nat} {xs : List Req} (h : Kd.C k90 w A n xs) (i : Int) (h0 : 0 ≤ i) (h1 : i < n) : ∃ ad A0 c0, A = some ad ∧ w.cell? (ad.add (i.toNat * 4)) = some (.int .i64 (rdQ xs i).op) ∧ w.cell? ⟨(ad.add (i.toNat * 4)).block, (ad.add (i.toNat * 4)).off + 1, none⟩ = some (.int .i64 (rdQ xs i).port) ∧ w.cell? ⟨(ad.add (i.toNat * 4)).block, (ad.add (i.toNat * 4)).off + 2, none⟩ = some (.int .u64 (rdQ xs i).addr) ∧ w.cell? ⟨(ad.add (i.toNat * 4)).block, (ad.add (i.toNat * 4)).off + 3, none⟩ = some (.slice A0 (rdQ xs i).data.length c0) ∧ (rdQ xs i).data.length ≤ c0 ∧ Kd.C (Kd.int .u32) w A0 (rdQ xs i).data.length (rdQ xs i).data := by
  obtain ⟨ad, c, e, _, hK, hc0⟩ := Kd.C_get h zreq i h0 h1
  have hc : ∀ j u, c[j]? = some u → w.cell? (ad.add (i.toNat * 4 + j)) = some u := hc0
  obtain ⟨A0, c0, rfl, hl, hd⟩ := k90_open hK
  exact ⟨ad, A0, c0, e, hc 0 _ rfl, by rw [← add_field _ _ 1 (by omega)]; exact hc 1 _ rfl, by rw [← add_field _ _ 2 (by omega)]; exact hc 2 _ rfl, by rw [← add_field _ _ 3 (by omega)]; exact hc 3 _ rfl, hl, hd⟩
def rdS (xs : List (List Req)) (i : Int) : List Req := xs.getD i.toNat []
theorem at_S {w : World} {A : Option Addr} {n : Nat} {xs : List (List Req)} (h : Kd.C kL w A n xs) (i : Int) (h0 : 0 ≤ i) (h1 : i < n) : ∃ ad A0 c0, A = some ad ∧ w.cell? (ad.add i.toNat) = some (.slice A0 (rdS xs i).length c0) ∧ (rdS xs i).length ≤ c0 ∧ k90.C w A0 (rdS xs i).length (rdS xs i) := by
  obtain ⟨ad, c, e, _, hK, hc0⟩ := Kd.C_get h [] i h0 h1
  have hc : ∀ j u, c[j]? = some u → w.cell? (ad.add (i.toNat * 1 + j)) = some u := hc0
  obtain ⟨A0, c0, rfl, l0, g0⟩ := hK
  exact ⟨ad, A0, c0, e, by have hq := hc 0 _ rfl; rwa [Nat.mul_one, Nat.add_zero] at hq, l0, g0⟩
/-! ### prefixes -/
theorem take_succ_of {α : Type} (z : α) (p q : List α) {x : Int} (h0 : 0 ≤ x) (h1 : x < p.length) (h2 : x < q.length) (ht : p.take x.toNat = q.take x.toNat) (he : p.getD x.toNat z = q.getD x.toNat z) : p.take (x + 1).toNat = q.take (x + 1).toNat := by
  have e : (x + 1).toNat = x.toNat + 1 := by omega
  have l1 : x.toNat < p.length := by omega
  have l2 : x.toNat < q.length := by omega
  rw [e, List.take_succ_eq_append_getElem l1, List.take_succ_eq_append_getElem l2, ht]
  rw [List.getD_eq_getElem?_getD, List.getD_eq_getElem?_getD, List.getElem?_eq_getElem l1, List.getElem?_eq_getElem l2] at he
  rw [show p[x.toNat] = q[x.toNat] from he]
theorem take_all_of {α : Type} {p q : List α} {n : Nat} (h1 : p.length = n) (h2 : q.length = n) (ht : p.take (n : Int).toNat = q.take (n : Int).toNat) : p = q := by
  rwa [List.take_of_length_le (by omega), List.take_of_length_le (by omega)] at ht
/-! ### lists of numbers -/
set_option maxRecDepth 20000 in
set_option maxHeartbeats 4000000 in
theorem ints_same0 (A : Option Addr) (c : Nat) (la : List Int) (B : Option Addr) (d : Nat) (lb : List Int) (w : World) (ha : Kd.C (Kd.int .i64) w A la.length la) (hb : Kd.C (Kd.int .i64) w B lb.length lb) (hn : la.length ≤ 9223372036854775807) :
    Calls Try.prog 60 #[.slice A la.length c, .slice B lb.length d] w fun e w' => e = .returned (.bool (decide (la = lb))) ∧ Below w.heap.size w w' := by
  obtain ⟨r, hr⟩ : ∃ r, decide (la = lb) = r := ⟨_, rfl⟩
  have HR : Aside0 ((la ≠ lb → r = false) ∧ (la = lb → r = true)) := ⟨fun h => by rw [← hr]; exact decide_eq_false h, fun h => by rw [← hr]; exact decide_eq_true h⟩
  rw [hr]
  obtain ⟨p, hp⟩ : ∃ n, la.length = n := ⟨_, rfl⟩
  obtain ⟨q, hq⟩ : ∃ n, lb.length = n := ⟨_, rfl⟩
  have HPQ := Aside0.mk (And.intro hp hq)
  rw [hp] at ha hn ⊢
  rw [hq] at hb ⊢
  have HA := Aside0.mk ha
  have HB := Aside0.mk hb
  have HW := Aside0.mk (Below.refl w.heap.size w)
  clear hr hp hq ha hb
  by_cases g : p = q
  · subst g
    have q0 : ((p : Int) != (p : Int)) = false := by simp
    go_enter Try.func60, Try.ntmps60
    go_wp2_with fail
    clear q0
    go_loopw [5] (fun v wr => ∃ x : Int, 0 ≤ x ∧ x ≤ p ∧ v = .int .i64 x ∧ Aside0 (la.take x.toNat = lb.take x.toNat) ∧ Aside0 (Below w.heap.size w wr)) (fun v _ => p - (intOf v).toNat)
    case atStart => exact ⟨0, by omega, by omega, rfl, ⟨rfl⟩, HW⟩
    case round =>
      clear HW
      obtain ⟨x, hx0, hx1, rfl, HT, HX⟩ := hrel
      by_cases hlt : x < p
      · have hd : decide (x < (p : Int)) = true := decide_eq_true hlt
        obtain ⟨ad, e1, hu⟩ := Kd.at_int HA.out x hx0 hlt
        cases e1
        obtain ⟨bd, e2, hv⟩ := Kd.at_int HB.out x hx0 hlt
        cases e2
        have hu := pw_cell_below HX.out hu
        have hv := pw_cell_below HX.out hv
        have HS : Aside0 (rd la x = rd lb x → la.take (x + 1).toNat = lb.take (x + 1).toNat) := ⟨take_succ_of 0 la lb hx0 (by rw [HPQ.out.1]; exact hlt) (by rw [HPQ.out.2]; exact hlt) HT.out⟩
        have HNE : Aside0 (rd la x ≠ rd lb x → r = false) := ⟨fun h => HR.out.1 (fun e => h (by rw [e]))⟩
        generalize rd la x = u at *
        generalize rd lb x = v at *
        have p0 := eq_true hx0
        have p1 := eq_true hlt
        by_cases he : u = v
        · have e0 : (u != v) = false := by simp [he]
          have HY := Aside0.mk (HS.out he)
          clear he HS HNE HT
          go_wp2_with fail
          go_quiet (fail)
          have HX2 : Aside0 (Below w.heap.size w (wr.drewN nq)) := ⟨pw_below_drewN HX.out nq⟩
          clear hu hv
          go_wp2
          go_roundw
          case rel => exact ⟨x + 1, by omega, by omega, by go_num, HY, HX2⟩
          case measure => simp [intOf]; omega
        · have e0 : (u != v) = true := by simp [he]
          have HF := Aside0.mk (HNE.out he)
          clear he HS HNE HT
          go_wp2_with fail
          go_quiet (fail)
          have HX2 : Aside0 (Below w.heap.size w (wr.drewN nq)) := ⟨pw_below_drewN HX.out nq⟩
          go_wp2
          go_ret
          exact ⟨by rw [HF.out]; rfl, HX2.out⟩
      · obtain rfl : x = (p : Int) := by omega
        have hd : decide ((p : Int) < (p : Int)) = false := decide_eq_false (by omega)
        have HF := Aside0.mk (HR.out.2 (take_all_of HPQ.out.1 HPQ.out.2 HT.out))
        clear HT hx0 hx1 hlt
        go_wp2
        go_ret
        exact ⟨by rw [HF.out]; rfl, HX.out⟩
  · have q0 : ((p : Int) != (q : Int)) = true := by simp; omega
    have HF : Aside0 (r = false) := ⟨HR.out.1 (fun e => g (by rw [← HPQ.out.1, ← HPQ.out.2, e]))⟩
    clear g
    go_enter Try.func60, Try.ntmps60
    go_wp2
    go_ret
    exact ⟨by rw [HF.out]; rfl, HW.out⟩
set_option maxRecDepth 20000 in
set_option maxHeartbeats 4000000 in
theorem eq_words (A : Option Addr) (c : Nat) (la : List Int) (B : Option Addr) (d : Nat) (lb : List Int) (w : World) (ha : Kd.C (Kd.int .u32) w A la.length la) (hb : Kd.C (Kd.int .u32) w B lb.length lb) (hn : la.length ≤ 9223372036854775807) :
    Calls Try.prog 78 #[.slice A la.length c, .slice B lb.length d] w fun e w' => e = .returned (.bool (decide (la = lb))) ∧ Below w.heap.size w w' := by
  obtain ⟨r, hr⟩ : ∃ r, decide (la = lb) = r := ⟨_, rfl⟩
  have HR : Aside0 ((la ≠ lb → r = false) ∧ (la = lb → r = true)) := ⟨fun h => by rw [← hr]; exact decide_eq_false h, fun h => by rw [← hr]; exact decide_eq_true h⟩
  rw [hr]
  obtain ⟨p, hp⟩ : ∃ n, la.length = n := ⟨_, rfl⟩
  obtain ⟨q, hq⟩ : ∃ n, lb.length = n := ⟨_, rfl⟩
  have HPQ := Aside0.mk (And.intro hp hq)
  rw [hp] at ha hn ⊢
  rw [hq] at hb ⊢
  have HA := Aside0.mk ha
  have HB := Aside0.mk hb
  have HW := Aside0.mk (Below.refl w.heap.size w)
  clear hr hp hq ha hb
  by_cases g : p = q
  · subst g
    have q0 : ((p : Int) != (p : Int)) = false := by simp
    go_enter Try.func78, Try.ntmps78
    go_wp2_with fail
    clear q0
    go_loopw [13] (fun v wr => ∃ x : Int, 0 ≤ x ∧ x ≤ p ∧ v = .int .i64 x ∧ Aside0 (la.take x.toNat = lb.take x.toNat) ∧ Aside0 (Below w.heap.size w wr)) (fun v _ => p - (intOf v).toNat)
    case atStart => exact ⟨0, by omega, by omega, rfl, ⟨rfl⟩, HW⟩
    case round =>
      clear HW
      obtain ⟨x, hx0, hx1, rfl, HT, HX⟩ := hrel
      by_cases hlt : x < p
      · have hd : decide (x < (p : Int)) = true := decide_eq_true hlt
        obtain ⟨ad, e1, hu⟩ := Kd.at_int HA.out x hx0 hlt
        cases e1
        obtain ⟨bd, e2, hv⟩ := Kd.at_int HB.out x hx0 hlt
        cases e2
        have hu := pw_cell_below HX.out hu
        have hv := pw_cell_below HX.out hv
        have HS : Aside0 (rd la x = rd lb x → la.take (x + 1).toNat = lb.take (x + 1).toNat) := ⟨take_succ_of 0 la lb hx0 (by rw [HPQ.out.1]; exact hlt) (by rw [HPQ.out.2]; exact hlt) HT.out⟩
        have HNE : Aside0 (rd la x ≠ rd lb x → r = false) := ⟨fun h => HR.out.1 (fun e => h (by rw [e]))⟩
        generalize rd la x = u at *
        generalize rd lb x = v at *
        have p0 := eq_true hx0
        have p1 := eq_true hlt
        by_cases he : u = v
        · have e0 : (u != v) = false := by simp [he]
          have HY := Aside0.mk (HS.out he)
          clear he HS HNE HT
          go_wp2_with fail
          go_quiet (fail)
          have HX2 : Aside0 (Below w.heap.size w (wr.drewN nq)) := ⟨pw_below_drewN HX.out nq⟩
          clear hu hv
          go_wp2
          go_roundw
          case rel => exact ⟨x + 1, by omega, by omega, by go_num, HY, HX2⟩
          case measure => simp [intOf]; omega
        · have e0 : (u != v) = true := by simp [he]
          have HF := Aside0.mk (HNE.out he)
          clear he HS HNE HT
          go_wp2_with fail
          go_quiet (fail)
          have HX2 : Aside0 (Below w.heap.size w (wr.drewN nq)) := ⟨pw_below_drewN HX.out nq⟩
          go_wp2
          go_ret
          exact ⟨by rw [HF.out]; rfl, HX2.out⟩
      · obtain rfl : x = (p : Int) := by omega
        have hd : decide ((p : Int) < (p : Int)) = false := decide_eq_false (by omega)
        have HF := Aside0.mk (HR.out.2 (take_all_of HPQ.out.1 HPQ.out.2 HT.out))
        clear HT hx0 hx1 hlt
        go_wp2
        go_ret
        exact ⟨by rw [HF.out]; rfl, HX.out⟩
  · have q0 : ((p : Int) != (q : Int)) = true := by simp; omega
    have HF : Aside0 (r = false) := ⟨HR.out.1 (fun e => g (by rw [← HPQ.out.1, ← HPQ.out.2, e]))⟩
    clear g
    go_enter Try.func78, Try.ntmps78
    go_wp2
    go_ret
    exact ⟨by rw [HF.out]; rfl, HW.out⟩
set_option maxRecDepth 20000 in
set_option maxHeartbeats 4000000 in
theorem eq_ints (A : Option Addr) (c : Nat) (la : List Int) (B : Option Addr) (d : Nat) (lb : List Int) (w : World) (ha : Kd.C (Kd.int .i64) w A la.length la) (hb : Kd.C (Kd.int .i64) w B lb.length lb) (hn : la.length ≤ 9223372036854775807) :
    Calls Try.prog 62 #[.slice A la.length c, .slice B lb.length d] w fun e w' => e = .returned (.bool (decide (la = lb))) ∧ Below w.heap.size w w' := by
  obtain ⟨r, hr⟩ : ∃ r, decide (la = lb) = r := ⟨_, rfl⟩
  have HR : Aside0 ((la ≠ lb → r = false) ∧ (la = lb → r = true)) := ⟨fun h => by rw [← hr]; exact decide_eq_false h, fun h => by rw [← hr]; exact decide_eq_true h⟩
  rw [hr]
  obtain ⟨p, hp⟩ : ∃ n, la.length = n := ⟨_, rfl⟩
  obtain ⟨q, hq⟩ : ∃ n, lb.length = n := ⟨_, rfl⟩
  have HPQ := Aside0.mk (And.intro hp hq)
  rw [hp] at ha hn ⊢
  rw [hq] at hb ⊢
  have HA := Aside0.mk ha
  have HB := Aside0.mk hb
  have HW := Aside0.mk (Below.refl w.heap.size w)
  clear hr hp hq ha hb
  by_cases g : p = q
  · subst g
    have q0 : ((p : Int) != (p : Int)) = false := by simp
    go_enter Try.func62, Try.ntmps62
    go_wp2_with fail
    clear q0
    go_loopw [13] (fun v wr => ∃ x : Int, 0 ≤ x ∧ x ≤ p ∧ v = .int .i64 x ∧ Aside0 (la.take x.toNat = lb.take x.toNat) ∧ Aside0 (Below w.heap.size w wr)) (fun v _ => p - (intOf v).toNat)
    case atStart => exact ⟨0, by omega, by omega, rfl, ⟨rfl⟩, HW⟩
    case round =>
      clear HW
      obtain ⟨x, hx0, hx1, rfl, HT, HX⟩ := hrel
      by_cases hlt : x < p
      · have hd : decide (x < (p : Int)) = true := decide_eq_true hlt
        obtain ⟨ad, e1, hu⟩ := Kd.at_int HA.out x hx0 hlt
        cases e1
        obtain ⟨bd, e2, hv⟩ := Kd.at_int HB.out x hx0 hlt
        cases e2
        have hu := pw_cell_below HX.out hu
        have hv := pw_cell_below HX.out hv
        have HS : Aside0 (rd la x = rd lb x → la.take (x + 1).toNat = lb.take (x + 1).toNat) := ⟨take_succ_of 0 la lb hx0 (by rw [HPQ.out.1]; exact hlt) (by rw [HPQ.out.2]; exact hlt) HT.out⟩
        have HNE : Aside0 (rd la x ≠ rd lb x → r = false) := ⟨fun h => HR.out.1 (fun e => h (by rw [e]))⟩
        generalize rd la x = u at *
        generalize rd lb x = v at *
        have p0 := eq_true hx0
        have p1 := eq_true hlt
        by_cases he : u = v
        · have e0 : (u != v) = false := by simp [he]
          have HY := Aside0.mk (HS.out he)
          clear he HS HNE HT
          go_wp2_with fail
          go_quiet (fail)
          have HX2 : Aside0 (Below w.heap.size w (wr.drewN nq)) := ⟨pw_below_drewN HX.out nq⟩
          clear hu hv
          go_wp2
          go_roundw
          case rel => exact ⟨x + 1, by omega, by omega, by go_num, HY, HX2⟩
          case measure => simp [intOf]; omega
        · have e0 : (u != v) = true := by simp [he]
          have HF := Aside0.mk (HNE.out he)
          clear he HS HNE HT
          go_wp2_with fail
          go_quiet (fail)
          have HX2 : Aside0 (Below w.heap.size w (wr.drewN nq)) := ⟨pw_below_drewN HX.out nq⟩
          go_wp2
          go_ret
          exact ⟨by rw [HF.out]; rfl, HX2.out⟩
      · obtain rfl : x = (p : Int) := by omega
        have hd : decide ((p : Int) < (p : Int)) = false := decide_eq_false (by omega)
        have HF := Aside0.mk (HR.out.2 (take_all_of HPQ.out.1 HPQ.out.2 HT.out))
        clear HT hx0 hx1 hlt
        go_wp2
        go_ret
        exact ⟨by rw [HF.out]; rfl, HX.out⟩
  · have q0 : ((p : Int) != (q : Int)) = true := by simp; omega
    have HF : Aside0 (r = false) := ⟨HR.out.1 (fun e => g (by rw [← HPQ.out.1, ← HPQ.out.2, e]))⟩
    clear g
    go_enter Try.func62, Try.ntmps62
    go_wp2
    go_ret
    exact ⟨by rw [HF.out]; rfl, HW.out⟩
theorem ints_same (A0 : Option Addr) (c0 : Nat) (l0 : List Int) (A1 : Option Addr) (c1 : Nat) (l1 : List Int) (w : World) (hr0 : Kd.C (Kd.int .i64) w A0 l0.length l0) (hc0 : l0.length ≤ c0) (hr1 : Kd.C (Kd.int .i64) w A1 l1.length l1) (hc1 : l1.length ≤ c1) (hn : l0.length ≤ 9223372036854775807) :
    Calls Try.prog 60 #[.slice A0 l0.length c0, .slice A1 l1.length c1] w fun e w' => e = .returned (.bool (decide (l0 = l1))) ∧ Below w.heap.size w w' := ints_same0 A0 c0 l0 A1 c1 l1 w hr0 hr1 hn
set_option maxRecDepth 20000 in
set_option maxHeartbeats 4000000 in
theorem req_same (x y : Req) (A : Option Addr) (c : Nat) (B : Option Addr) (d : Nat) (w : World) (hr0 : Kd.C (Kd.int .u32) w A x.data.length x.data) (hc0 : x.data.length ≤ c) (hr1 : Kd.C (Kd.int .u32) w B y.data.length y.data) (hc1 : y.data.length ≤ d) (hn : x.data.length ≤ 9223372036854775807) :
    Calls Try.prog 61 #[.agg #[.int .i64 x.op, .int .i64 x.port, .int .u64 x.addr, .slice A x.data.length c], .agg #[.int .i64 y.op, .int .i64 y.port, .int .u64 y.addr, .slice B y.data.length d]] w fun e w' => e = .returned (.bool (decide (x = y))) ∧ Below w.heap.size w w' := by
  obtain ⟨r, hr⟩ : ∃ r, decide (x = y) = r := ⟨_, rfl⟩
  have hr' : r = decide (x.op = y.op ∧ x.port = y.port ∧ x.addr = y.addr ∧ x.data = y.data) := by rw [← hr, decide_eq_decide]; exact (req_eq x y).symm
  rw [hr]
  have HT : Aside0 ((x.op ≠ y.op → r = false) ∧ (x.port ≠ y.port → r = false) ∧ (x.addr ≠ y.addr → r = false) ∧ (x.data ≠ y.data → r = false) ∧ (x.op = y.op → x.port = y.port → x.addr = y.addr → x.data = y.data → r = true)) := ⟨by
    refine ⟨fun h => ?_, fun h => ?_, fun h => ?_, fun h => ?_, fun h1 h2 h3 h4 => ?_⟩
    · rw [hr']; exact decide_eq_false (fun e => h e.1)
    · rw [hr']; exact decide_eq_false (fun e => h e.2.1)
    · rw [hr']; exact decide_eq_false (fun e => h e.2.2.1)
    · rw [hr']; exact decide_eq_false (fun e => h e.2.2.2)
    · rw [hr']; exact decide_eq_true ⟨h1, h2, h3, h4⟩⟩
  clear hr hr' hc0 hc1
  generalize x.op = xo at *
  generalize x.port = xp at *
  generalize x.addr = xa at *
  generalize x.data = la at *
  generalize y.op = yo at *
  generalize y.port = yp at *
  generalize y.addr = ya at *
  generalize y.data = lb at *
  obtain ⟨xl, hp⟩ : ∃ n, la.length = n := ⟨_, rfl⟩
  obtain ⟨yl, hq⟩ : ∃ n, lb.length = n := ⟨_, rfl⟩
  rw [hp] at hr0 hn ⊢
  rw [hq] at hr1 ⊢
  have HPQ := Aside0.mk (And.intro hp hq)
  have HX := Aside0.mk hr0
  have HY := Aside0.mk hr1
  have HW := Aside0.mk (below_alloc (below_alloc (Below.refl _ w) (.cells #[.int .i64 xo, .int .i64 xp, .int .u64 xa, .slice A xl c] 90)) (.cells #[.int .i64 yo, .int .i64 yp, .int .u64 ya, .slice B yl d] 90))
  have HG0 := Aside0.mk (blk_alloc (blk_new w (.cells #[.int .i64 xo, .int .i64 xp, .int .u64 xa, .slice A xl c] 90)) (.cells #[.int .i64 yo, .int .i64 yp, .int .u64 ya, .slice B yl d] 90))
  have hg1 := blk_new (w.alloc (.cells #[.int .i64 xo, .int .i64 xp, .int .u64 xa, .slice A xl c] 90)) (.cells #[.int .i64 yo, .int .i64 yp, .int .u64 ya, .slice B yl d] 90)
  rw [World.size_alloc] at hg1
  have HG1 := Aside0.mk hg1
  clear hp hq hr0 hr1 hg1
  by_cases g0 : xo = yo
  · have e0 : (xo != yo) = false := by simp [g0]
    by_cases g1 : xp = yp
    · have e1 : (xp != yp) = false := by simp [g1]
      by_cases g2 : xa = ya
      · have e2 : (xa != ya) = false := by simp [g2]
        by_cases g3 : xl = yl
        · have q0 : ((xl : Int) != (xl : Int)) = false := by simp
          have HR : Aside0 (la = lb → r = true) := ⟨fun h => HT.out.2.2.2.2 g0 g1 g2 h⟩
          subst g3
          clear g0 g1 g2
          go_enter Try.func61, Try.ntmps61
          go_upto_region 1 with fail
          generalize (w.alloc (.cells #[.int .i64 xo, .int .i64 xp, .int .u64 xa, .slice A xl c] 90)).alloc (.cells #[.int .i64 yo, .int .i64 yp, .int .u64 ya, .slice B xl d] 90) = w1 at *
          have ha0 := (blk_cell HG0.out 0).trans rfl
          have hb0 := (blk_cell HG1.out 0).trans rfl
          have ha1 := (blk_cell HG0.out 1).trans rfl
          have hb1 := (blk_cell HG1.out 1).trans rfl
          have ha2 := (blk_cell HG0.out 2).trans rfl
          have hb2 := (blk_cell HG1.out 2).trans rfl
          have ha3 := (blk_cell HG0.out 3).trans rfl
          have hb3 := (blk_cell HG1.out 3).trans rfl
          go_wp2_with fail
          clear ha0 ha1 ha2 ha3 hb0 hb1 hb2 hb3 q0 e0 e1 e2
          go_loopw [5] (fun v wr => ∃ x : Int, 0 ≤ x ∧ x ≤ xl ∧ v = .int .i64 x ∧ Aside0 (la.take x.toNat = lb.take x.toNat) ∧ Aside0 (Below w.heap.size w wr) ∧ Aside0 (wr.heap[w.heap.size]? = some (.cells #[.int .i64 xo, .int .i64 xp, .int .u64 xa, .slice A xl c] 90 (0, 0))) ∧ Aside0 (wr.heap[w.heap.size + 1]? = some (.cells #[.int .i64 yo, .int .i64 yp, .int .u64 ya, .slice B xl d] 90 (0, 0)))) (fun v _ => xl - (intOf v).toNat)
          case atStart => exact ⟨0, by omega, by omega, rfl, ⟨rfl⟩, HW, HG0, HG1⟩
          case round =>
            clear HW HG0 HG1
            obtain ⟨x, hx0, hx1, rfl, HE, HW, HG0, HG1⟩ := hrel
            have ha3 := (blk_cell HG0.out 3).trans rfl
            have hb3 := (blk_cell HG1.out 3).trans rfl
            by_cases hlt : x < xl
            · have hd : decide (x < (xl : Int)) = true := decide_eq_true hlt
              obtain ⟨ad, e1, hu⟩ := Kd.at_int HX.out x hx0 hlt
              cases e1
              obtain ⟨bd, e2, hv⟩ := Kd.at_int HY.out x hx0 hlt
              cases e2
              have hu := pw_cell_below HW.out hu
              have hv := pw_cell_below HW.out hv
              have HS : Aside0 (rd la x = rd lb x → la.take (x + 1).toNat = lb.take (x + 1).toNat) := ⟨take_succ_of 0 la lb hx0 (by rw [HPQ.out.1]; exact hlt) (by rw [HPQ.out.2]; exact hlt) HE.out⟩
              have HNE : Aside0 (rd la x ≠ rd lb x → r = false) := ⟨fun h => HT.out.2.2.2.1 (fun e => h (by rw [e]))⟩
              generalize rd la x = u at *
              generalize rd lb x = v at *
              have p0 := eq_true hx0
              have p1 := eq_true hlt
              by_cases he : u = v
              · have e0 : (u != v) = false := by simp [he]
                have HY2 := Aside0.mk (HS.out he)
                clear he HS HNE HE
                go_wp2_with fail
                go_quiet (fail)
                have hbd := pw_below_drewN (Below.refl wr.heap.size wr) nq
                have HX2 := Aside0.mk (HW.out.trans (hbd.mono HW.out.size))
                have HA2 := Aside0.mk (blk_below HG0.out hbd)
                have HB2 := Aside0.mk (blk_below HG1.out hbd)
                clear hu hv hbd
                go_wp2
                go_roundw
                case rel => exact ⟨x + 1, by omega, by omega, by go_num, HY2, HX2, HA2, HB2⟩
                case measure => simp [intOf]; omega
              · have e0 : (u != v) = true := by simp [he]
                have HF := Aside0.mk (HNE.out he)
                clear he HS HNE HE
                go_wp2_with fail
                go_quiet (fail)
                have HX2 : Aside0 (Below w.heap.size w (wr.drewN nq)) := ⟨pw_below_drewN HW.out nq⟩
                go_wp2
                go_ret
                exact ⟨by rw [HF.out]; rfl, HX2.out⟩
            · obtain rfl : x = (xl : Int) := by omega
              have hd : decide ((xl : Int) < (xl : Int)) = false := decide_eq_false (by omega)
              have HF := Aside0.mk (HR.out (take_all_of HPQ.out.1 HPQ.out.2 HE.out))
              clear HE hx0 hx1 hlt
              go_wp2
              go_ret
              exact ⟨by rw [HF.out]; rfl, HW.out⟩
        · have q0 : ((xl : Int) != (yl : Int)) = true := by simp; omega
          have HF : Aside0 (r = false) := ⟨HT.out.2.2.2.1 (fun e => g3 (by rw [← HPQ.out.1, ← HPQ.out.2, e]))⟩
          clear g0 g1 g2 g3
          clear HG0 HG1 HX HY HT
          go_enter Try.func61, Try.ntmps61
          go_wp2
          go_ret
          exact ⟨by rw [HF.out]; rfl, HW.out⟩
      · have e2 : (xa != ya) = true := by simp [g2]
        have HF : Aside0 (r = false) := ⟨HT.out.2.2.1 g2⟩
        clear g0 g1 g2
        clear HG0 HG1 HX HY HT
        go_enter Try.func61, Try.ntmps61
        go_wp2
        go_ret
        exact ⟨by rw [HF.out]; rfl, HW.out⟩
    · have e1 : (xp != yp) = true := by simp [g1]
      have HF : Aside0 (r = false) := ⟨HT.out.2.1 g1⟩
      clear g0 g1
      clear HG0 HG1 HX HY HT
      go_enter Try.func61, Try.ntmps61
      go_wp2
      go_ret
      exact ⟨by rw [HF.out]; rfl, HW.out⟩
  · have e0 : (xo != yo) = true := by simp [g0]
    have HF : Aside0 (r = false) := ⟨HT.out.1 g0⟩
    clear g0
    clear HG0 HG1 HX HY HT
    go_enter Try.func61, Try.ntmps61
    go_wp2
    go_ret
    exact ⟨by rw [HF.out]; rfl, HW.out⟩
end Go.Proofs.Ytbpmmabdjabfcaa.Script
