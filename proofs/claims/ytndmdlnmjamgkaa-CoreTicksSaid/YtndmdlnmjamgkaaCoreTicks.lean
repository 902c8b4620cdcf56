import Derived.Test.YtndmdlnmjamgkaaCoreWakes
import Derived.Test.YtndmdlnmjamgkaaCoreOpn
/- Package portholelaw15: the walk of CoreTicks, given that Accepts answers some Bool. Written by wip/coreticks.py. -/
namespace Go.Proofs.Ytndmdlnmjamgkaa.Core
open Go.RowKit Go.Proofs.YtndmdlnmjamgkaaW.PrintWords Go.Proofs.YtndmdlnmjamgkaaW.PrintLast Go.Proofs.YtndmdlnmjamgkaaW.PrintMore Go.Proofs.Ytndmdlnmjamgkaa.PF Go.Proofs.Ytndmdlnmjamgkaa.Frame Go.Proofs.Ytndmdlnmjamgkaa.Box
set_option linter.unusedSimpArgs false
set_option linter.unusedVariables false
theorem same_self (l : List Int) (h : l.length ≤ 2) : PC.portholeref01_Same.f 5 l l = some true := by
  match l, h with
  | [], _ => first | rfl | simp [PC.portholeref01_Same.f, PC.portholeref01_Same.l0]
  | [a], _ => first | rfl | simp [PC.portholeref01_Same.f, PC.portholeref01_Same.l0, rd, wrap64]
  | [a, b], _ => simp [PC.portholeref01_Same.f, PC.portholeref01_Same.l0, rd, wrap64]
  | a :: b :: c :: r, h => simp at h
/-- The box with the configuration, and what was there before. -/
structure BB (w W : World) (cs : Array Value) : Prop where
  blk : W.heap[w.heap.size]? = some (.cells cs 61 (0, 0))
  bel : Below w.heap.size w W
theorem BB.to {w W W' : World} {cs : Array Value} (h : BB w W cs) (hb : Below W.heap.size W W') : BB w W' cs := ⟨blk_below h.blk hb, h.bel.trans (hb.mono h.bel.size)⟩
theorem BB.keep {w W W' : World} {cs : Array Value} {g : Nat} (h : BB w W cs) (hk : KeepBut W W' g none) (hb : Below w.heap.size w W') (hne : w.heap.size ≠ g) : BB w W' cs := ⟨hk.blk h.blk hne (by simp), hb⟩
set_option maxRecDepth 20000 in
set_option maxHeartbeats 8000000 in
theorem CoreTicks_go {w : World} {f : Fr} {ps : List S69} {xs : List S87} {cs : Array Value} (h : IsCfg w f ps xs cs) (n other : Int) (hn : 0 ≤ n ∧ n ≤ 255) :
    Calls Try.prog 14 #[.agg cs, .int .u8 n, .int .i64 other] w fun e w' => e = .returned (.bool true) ∧ Below w.heap.size w w' := by
  have HI := Aside0.mk h.fr
  obtain ⟨Ap, cp, Ax, cx, A2, c2, A3, c3, rfl, ⟨hl2, hl3⟩, hp, hx, h2, h3⟩ := h
  have HNW := Aside0.mk (fun (X : World) (hX : Below w.heap.size w X) (q2 : f.ws0.length ≤ 1000000) (q3 : f.ws1.length ≤ 1000000) => new_calls X Ap ps.length cp Ax xs.length cx f A2 c2 A3 c3 hl2 hl3 (Kd.C_below h2 hX) (Kd.C_below h3 hX) q2 q3)
  have HWH := Aside0.mk (fun (X : World) (hX : Below w.heap.size w X) => refwho_calls (isFr_below HI.out hX))
  have HEN := Aside0.mk (fun (X : World) (hX : Below w.heap.size w X) => refent_calls (isFr_below HI.out hX))
  have HA := Aside0.mk (fun (X : World) (hX : Below w.heap.size w X) (q0 : ps.length ≤ 1000000) (q1 : xs.length ≤ 1000000) (q2 : f.ws0.length ≤ 1000000) (q3 : f.ws1.length ≤ 1000000) => accepts_calls X Ap ps.length cp Ax xs.length cx f.l0 A2 f.ws0.length c2 f.l1 A3 f.ws1.length c3 ps xs f.ws0 f.ws1 ⟨Kd.C_below hp hX, Kd.C_below hx hX, Kd.C_below h2 hX, Kd.C_below h3 hX, q0, q1, q2, q3⟩)
  have HGR := Aside0.mk (fun (X : World) => great_calls X Ap ps.length cp Ax xs.length cx f.l0 A2 f.ws0.length c2 f.l1 A3 f.ws1.length c3)
  have HB0 : Aside0 (BB w (w.alloc (.cells #[.slice Ap ps.length cp, .slice Ax xs.length cx, .int .i64 f.l0, .slice A2 f.ws0.length c2, .int .i64 f.l1, .slice A3 f.ws1.length c3] 61)) #[.slice Ap ps.length cp, .slice Ax xs.length cx, .int .i64 f.l0, .slice A2 f.ws0.length c2, .int .i64 f.l1, .slice A3 f.ws1.length c3]) := ⟨⟨blk_new w _, below_alloc (Below.refl _ w) _⟩⟩
  clear hl2 hl3 h2 h3 hp hx HI
  obtain ⟨np, hnp⟩ : ∃ n, ps.length = n := ⟨_, rfl⟩
  obtain ⟨nx, hnx⟩ : ∃ n, xs.length = n := ⟨_, rfl⟩
  obtain ⟨n2, hn2⟩ : ∃ n, f.ws0.length = n := ⟨_, rfl⟩
  obtain ⟨n3, hn3⟩ : ∃ n, f.ws1.length = n := ⟨_, rfl⟩
  obtain ⟨l0, hl0⟩ : ∃ n, f.l0 = n := ⟨_, rfl⟩
  obtain ⟨l1, hl1⟩ : ∃ n, f.l1 = n := ⟨_, rfl⟩
  rw [hnp, hnx, hn2, hn3, hl0, hl1] at HNW HWH HEN HA HGR HB0 ⊢
  clear hnp hnx hn2 hn3 hl0 hl1
  have hgr : (decide (100 < np) || (decide (100 < nx) || (decide (100 < n2) || decide (100 < n3)))) = false → np ≤ 1000000 ∧ nx ≤ 1000000 ∧ n2 ≤ 1000000 ∧ n3 ≤ 1000000 := fun h => by
    simp only [Bool.or_eq_false_iff, decide_eq_false_iff_not] at h
    omega
  have HGN := Aside0.mk hgr
  clear hgr
  generalize (decide (100 < np) || (decide (100 < nx) || (decide (100 < n2) || decide (100 < n3)))) = gb at *
  obtain ⟨hn0, hn1⟩ := hn
  have hcv : IntKind.i64.wrap n = n := by rw [i64_w]; unfold wrap64; omega
  go_enter Try.func14, Try.ntmps14
  go_wp2_with fail
  refine (wakes_calls _).mono ?_
  rintro e w2 ⟨rfl, hb⟩
  have HB2 := Aside0.mk (HB0.out.to hb)
  clear hb HB0
  have ha0 := (blk_cell HB2.out.blk 0).trans rfl
  have ha1 := (blk_cell HB2.out.blk 1).trans rfl
  have ha2 := (blk_cell HB2.out.blk 2).trans rfl
  have ha3 := (blk_cell HB2.out.blk 3).trans rfl
  have ha4 := (blk_cell HB2.out.blk 4).trans rfl
  have ha5 := (blk_cell HB2.out.blk 5).trans rfl
  go_wp2_with fail
  refine (HGR.out _).mono ?_
  rintro e w3 ⟨rfl, hb⟩
  have HB3 := Aside0.mk (HB2.out.to hb)
  clear hb HB2 HGR ha0 ha1 ha2 ha3 ha4 ha5
  have ha0 := (blk_cell HB3.out.blk 0).trans rfl
  have ha1 := (blk_cell HB3.out.blk 1).trans rfl
  have ha2 := (blk_cell HB3.out.blk 2).trans rfl
  have ha3 := (blk_cell HB3.out.blk 3).trans rfl
  have ha4 := (blk_cell HB3.out.blk 4).trans rfl
  have ha5 := (blk_cell HB3.out.blk 5).trans rfl
  cases gb with
  | true =>
    go_wp2
    go_ret
    exact ⟨rfl, HB3.out.bel⟩
  | false =>
    obtain ⟨hs0, hs1, hs2, hs3⟩ := HGN.out rfl
    go_wp2_with fail
    refine (HA.out _ HB3.out.bel hs0 hs1 hs2 hs3).mono ?_
    rintro e w4 ⟨⟨b, rfl, _⟩, hb⟩
    have HB4 := Aside0.mk (HB3.out.to hb)
    clear hb HB3 HA ha0 ha1 ha2 ha3 ha4 ha5
    have ha0 := (blk_cell HB4.out.blk 0).trans rfl
    have ha1 := (blk_cell HB4.out.blk 1).trans rfl
    have ha2 := (blk_cell HB4.out.blk 2).trans rfl
    have ha3 := (blk_cell HB4.out.blk 3).trans rfl
    have ha4 := (blk_cell HB4.out.blk 4).trans rfl
    have ha5 := (blk_cell HB4.out.blk 5).trans rfl
    cases b with
    | false =>
      go_wp2
      go_ret
      exact ⟨rfl, HB4.out.bel⟩
    | true =>
      go_wp2_with fail
      refine (HNW.out _ HB4.out.bel hs2 hs3).mono ?_
      rintro e w5 ⟨rfl, hck⟩
      have HB5 := Aside0.mk (HB4.out.to hck.bel)
      have hgl : w.heap.size < w4.heap.size + 1 := by have := HB4.out.bel.size; omega
      have HC5 := Aside0.mk hck
      have HW4 := Aside0.mk HB4.out.bel
      clear hck HB4 ha0 ha1 ha2 ha3 ha4 ha5 HNW
      generalize w4.heap.size + 1 = g at *
      have ha0 := (blk_cell HB5.out.blk 0).trans rfl
      have ha1 := (blk_cell HB5.out.blk 1).trans rfl
      have ha2 := (blk_cell HB5.out.blk 2).trans rfl
      have ha3 := (blk_cell HB5.out.blk 3).trans rfl
      have ha4 := (blk_cell HB5.out.blk 4).trans rfl
      have ha5 := (blk_cell HB5.out.blk 5).trans rfl
      go_wp2_with fail
      go_loopw [30] (fun v wr => ∃ x : Int, 0 ≤ x ∧ x ≤ n ∧ v = .int .i64 x ∧ Aside0 (IsCk w4 wr g f x) ∧ Aside0 (BB w wr #[.slice Ap np cp, .slice Ax nx cx, .int .i64 l0, .slice A2 n2 c2, .int .i64 l1, .slice A3 n3 c3])) (fun v _ => (n - intOf v).toNat)
      case atStart => exact ⟨0, by omega, by omega, rfl, HC5, HB5⟩
      case round =>
        clear HC5 HB5 ha0 ha1 ha2 ha3 ha4 ha5
        obtain ⟨x, hx0, hx1, rfl, HC, HB⟩ := hrel
        by_cases hlt : x < n
        · have hd : decide (x < n) = true := decide_eq_true hlt
          have HNW1 := Aside0.mk (now_calls HC.out)
          go_wp2_with fail
          refine HNW1.out.mono ?_
          rintro e w6 ⟨rfl, hck, hb⟩
          have hb7 := hb.trans ((below_alloc (Below.refl _ w6) (.cells #[.int .i64 0, .int .i64 1, .int .i64 other] 3)).mono hb.size)
          have HH := Aside0.mk (blk_new w6 (.cells #[.int .i64 0, .int .i64 1, .int .i64 other] 3))
          have HC7 := Aside0.mk (hck.to (below_alloc (Below.refl _ w6) (.cells #[.int .i64 0, .int .i64 1, .int .i64 other] 3)))
          have HB7 := Aside0.mk (HB.out.to hb7)
          have hxx : (x != x) = false := by simp
          clear hck hb hb7 HNW1 HC HB
          go_wp2_with fail
          generalize w6.alloc (.cells #[.int .i64 0, .int .i64 1, .int .i64 other] 3) = w7 at *
          go_loopw [40] (fun v wr => ∃ k : Nat, k ≤ 3 ∧ v = .int .i64 k ∧ Aside0 (IsCk w4 wr g f x) ∧ Aside0 (BB w wr #[.slice Ap np cp, .slice Ax nx cx, .int .i64 l0, .slice A2 n2 c2, .int .i64 l1, .slice A3 n3 c3]) ∧ Aside0 (wr.heap[w6.heap.size]? = some (.cells #[.int .i64 0, .int .i64 1, .int .i64 other] 3 (0, 0)))) (fun v _ => 3 - (intOf v).toNat)
          case atStart => exact ⟨0, by omega, rfl, HC7, HB7, HH⟩
          case round =>
            clear HC7 HB7 HH
            obtain ⟨k, hk, rfl, HC, HB, HH⟩ := hrel
            match k, hk with
            | 0, _ =>
              have hc : wr.cell? ⟨w6.heap.size, 0, none⟩ = some (.int .i64 0) := (blk_cell HH.out 0).trans rfl
              go_wp2_with fail
              refine (who_calls HC.out 0).mono ?_
              rintro e w8 ⟨rfl, hck, hb⟩
              have HC8 := Aside0.mk hck
              have HB8 := Aside0.mk (HB.out.to hb)
              have HH8 := Aside0.mk (blk_below HH.out hb)
              clear hck hb HC HB HH hc
              have ha0 := (blk_cell HB8.out.blk 0).trans rfl
              have ha1 := (blk_cell HB8.out.blk 1).trans rfl
              have ha2 := (blk_cell HB8.out.blk 2).trans rfl
              have ha3 := (blk_cell HB8.out.blk 3).trans rfl
              have ha4 := (blk_cell HB8.out.blk 4).trans rfl
              have ha5 := (blk_cell HB8.out.blk 5).trans rfl
              go_wp2_with fail
              refine (HWH.out _ HB8.out.bel 0 x).mono ?_
              rintro e w9 ⟨rfl, hb⟩
              have HC9 := Aside0.mk (HC8.out.to hb)
              have HB9 := Aside0.mk (HB8.out.to hb)
              have HH9 := Aside0.mk (blk_below HH8.out hb)
              clear hb HC8 HB8 HH8 ha0 ha1 ha2 ha3 ha4 ha5
              generalize whoV f x 0 = r at *
              obtain ⟨r1, r2⟩ := r
              have e1 : (r1 != r1) = false := by simp
              have e2 : (r2 != r2) = false := by simp
              go_wp2
              go_roundw
              case rel => exact ⟨1, by omega, by go_num, HC9, HB9, HH9⟩
              case measure => simp [intOf]
            | 1, _ =>
              have hc : wr.cell? ⟨w6.heap.size, 1, none⟩ = some (.int .i64 1) := (blk_cell HH.out 1).trans rfl
              go_wp2_with fail
              refine (who_calls HC.out 1).mono ?_
              rintro e w8 ⟨rfl, hck, hb⟩
              have HC8 := Aside0.mk hck
              have HB8 := Aside0.mk (HB.out.to hb)
              have HH8 := Aside0.mk (blk_below HH.out hb)
              clear hck hb HC HB HH hc
              have ha0 := (blk_cell HB8.out.blk 0).trans rfl
              have ha1 := (blk_cell HB8.out.blk 1).trans rfl
              have ha2 := (blk_cell HB8.out.blk 2).trans rfl
              have ha3 := (blk_cell HB8.out.blk 3).trans rfl
              have ha4 := (blk_cell HB8.out.blk 4).trans rfl
              have ha5 := (blk_cell HB8.out.blk 5).trans rfl
              go_wp2_with fail
              refine (HWH.out _ HB8.out.bel 1 x).mono ?_
              rintro e w9 ⟨rfl, hb⟩
              have HC9 := Aside0.mk (HC8.out.to hb)
              have HB9 := Aside0.mk (HB8.out.to hb)
              have HH9 := Aside0.mk (blk_below HH8.out hb)
              clear hb HC8 HB8 HH8 ha0 ha1 ha2 ha3 ha4 ha5
              generalize whoV f x 1 = r at *
              obtain ⟨r1, r2⟩ := r
              have e1 : (r1 != r1) = false := by simp
              have e2 : (r2 != r2) = false := by simp
              go_wp2
              go_roundw
              case rel => exact ⟨2, by omega, by go_num, HC9, HB9, HH9⟩
              case measure => simp [intOf]
            | 2, _ =>
              have hc : wr.cell? ⟨w6.heap.size, 2, none⟩ = some (.int .i64 other) := (blk_cell HH.out 2).trans rfl
              go_wp2_with fail
              refine (who_calls HC.out other).mono ?_
              rintro e w8 ⟨rfl, hck, hb⟩
              have HC8 := Aside0.mk hck
              have HB8 := Aside0.mk (HB.out.to hb)
              have HH8 := Aside0.mk (blk_below HH.out hb)
              clear hck hb HC HB HH hc
              have ha0 := (blk_cell HB8.out.blk 0).trans rfl
              have ha1 := (blk_cell HB8.out.blk 1).trans rfl
              have ha2 := (blk_cell HB8.out.blk 2).trans rfl
              have ha3 := (blk_cell HB8.out.blk 3).trans rfl
              have ha4 := (blk_cell HB8.out.blk 4).trans rfl
              have ha5 := (blk_cell HB8.out.blk 5).trans rfl
              go_wp2_with fail
              refine (HWH.out _ HB8.out.bel other x).mono ?_
              rintro e w9 ⟨rfl, hb⟩
              have HC9 := Aside0.mk (HC8.out.to hb)
              have HB9 := Aside0.mk (HB8.out.to hb)
              have HH9 := Aside0.mk (blk_below HH8.out hb)
              clear hb HC8 HB8 HH8 ha0 ha1 ha2 ha3 ha4 ha5
              generalize whoV f x other = r at *
              obtain ⟨r1, r2⟩ := r
              have e1 : (r1 != r1) = false := by simp
              have e2 : (r2 != r2) = false := by simp
              go_wp2
              go_roundw
              case rel => exact ⟨3, by omega, by go_num, HC9, HB9, HH9⟩
              case measure => simp [intOf]
            | 3, _ =>
              go_wp2_with fail
              have hw1 : IntKind.i64.wrap (x + 1) = x + 1 := by rw [i64_w]; unfold wrap64; omega
              refine start_ (n := 8) (S := fun w' => w'.cell? ⟨w.heap.size, 0, none⟩ = some (.slice Ap np cp) ∧ w'.cell? ⟨w.heap.size, 1, none⟩ = some (.slice Ax nx cx) ∧ w'.cell? ⟨w.heap.size, 2, none⟩ = some (.int .i64 l0) ∧ w'.cell? ⟨w.heap.size, 3, none⟩ = some (.slice A2 n2 c2) ∧ w'.cell? ⟨w.heap.size, 4, none⟩ = some (.int .i64 l1) ∧ w'.cell? ⟨w.heap.size, 5, none⟩ = some (.slice A3 n3 c3)) (ds := []) #[false, false, false, false, false, false, false, false] (by kernel_rfl) rfl rfl ⟨(blk_cell (HB.out.to (below_drew1 (Below.refl _ _))).blk 0).trans rfl, (blk_cell (HB.out.to (below_drew1 (Below.refl _ _))).blk 1).trans rfl, (blk_cell (HB.out.to (below_drew1 (Below.refl _ _))).blk 2).trans rfl, (blk_cell (HB.out.to (below_drew1 (Below.refl _ _))).blk 3).trans rfl, (blk_cell (HB.out.to (below_drew1 (Below.refl _ _))).blk 4).trans rfl, (blk_cell (HB.out.to (below_drew1 (Below.refl _ _))).blk 5).trans rfl⟩ (fun hHeld => ?_)
              refine pure_ (i := 0) (N := some 66) (v := ?_) (a' := ?_) #[true, false, false, false, false, false, false, false] rfl rfl (by kernel_rfl) (fun _ _ _ h => h) (Or.inl ⟨by rfl, ?_⟩) ?_ ?_
              rotate_left
              · intro w'
                go_simp
                with_reducible rfl
              rotate_left
              · simp only [Act.put, List.setIfInBounds_toArray, List.set_cons_zero, List.set_cons_succ, i64_w, i32_w]
                rfl
              refine pure_ (i := 3) (N := some 69) (v := ?_) (a' := ?_) #[true, false, false, true, false, false, false, false] rfl rfl (by kernel_rfl) (fun _ _ _ h => h) (Or.inl ⟨by rfl, ?_⟩) ?_ ?_
              rotate_left
              · intro w'
                go_simp
                with_reducible rfl
              rotate_left
              · simp only [Act.put, List.setIfInBounds_toArray, List.set_cons_zero, List.set_cons_succ, i64_w, i32_w]
                rfl
              refine pure_ (i := 4) (N := some 70) (v := ?_) (a' := ?_) #[true, false, false, true, true, false, false, false] rfl rfl (by kernel_rfl) (fun _ _ _ h => h) (Or.inl ⟨by rfl, ?_⟩) ?_ ?_
              rotate_left
              · intro w'
                go_simp
                with_reducible rfl
              rotate_left
              · simp only [Act.put, List.setIfInBounds_toArray, List.set_cons_zero, List.set_cons_succ, i64_w, i32_w]
                rfl
              refine take_ (i := 2) (N := some 68) (v := ?_) (a' := ?_) #[true, false, true, true, true, false, false, false] rfl rfl (by kernel_rfl) (fun _ _ _ h => h) (Or.inl ⟨by rfl, ?_⟩) hHeld ?_ ?_
              rotate_left
              · rintro w' ⟨s0, s1, s2, s3, s4, s5⟩
                go_simp
                with_reducible rfl
              rotate_left
              · simp only [Act.put, List.setIfInBounds_toArray, List.set_cons_zero, List.set_cons_succ, i64_w, i32_w]
                rfl
              refine one_ (i := 1) (N := some 67) #[true, true, true, true, true, false, false, false] rfl rfl (by kernel_rfl) (by decide) (fun K hK => ?_)
              refine goes_ Try.func42 (by kernel_rfl) rfl #[.pointer (some ⟨g, 0, none⟩)] (by rfl) rfl rfl (by simp only [List.map_toArray, List.map_cons, List.map_nil]; rfl) ?_
              with_reducible refine (tick_calls (HC.out.to (below_drew1 (Below.refl _ _))) (by omega)).mono ?_
              rintro e wt ⟨At, nt, ct, rfl, ho, hck, hkb, hbw⟩
              refine ⟨_, rfl, ?_⟩
              obtain rfl := (Kd.R_reads' ho).1
              have HBt := Aside0.mk ((HB.out.to (below_drew1 (Below.refl _ _))).keep hkb (HW4.out.trans (hbw.mono HW4.out.size)) (by omega))
              have HCt := Aside0.mk hck
              have HOt := Aside0.mk ho
              clear ho hck hkb hbw
              refine hK.out _ _ ⟨(blk_cell HBt.out.blk 0).trans rfl, (blk_cell HBt.out.blk 1).trans rfl, (blk_cell HBt.out.blk 2).trans rfl, (blk_cell HBt.out.blk 3).trans rfl, (blk_cell HBt.out.blk 4).trans rfl, (blk_cell HBt.out.blk 5).trans rfl⟩ (fun hHeld => ?_)
              clear hK K
              refine norm_ (a' := ?_) ?_ ?_
              rotate_left
              · show Act.put _ (some 67) _ = _
                simp only [Act.put, List.setIfInBounds_toArray, List.set_cons_zero, List.set_cons_succ, i64_w, i32_w]
                rfl
              refine one_ (i := 5) (N := some 71) #[true, true, true, true, true, true, false, false] rfl rfl (by kernel_rfl) (by decide) (fun K hK => ?_)
              refine goes_ Try.func47 (by kernel_rfl) rfl #[.agg #[.slice Ap np cp, .slice Ax nx cx, .int .i64 l0, .slice A2 n2 c2, .int .i64 l1, .slice A3 n3 c3], .int .i64 (x + 1)] (by rfl) rfl rfl (by simp only [List.map_toArray, List.map_cons, List.map_nil]; rfl) ?_
              with_reducible refine (HEN.out _ HBt.out.bel (x + 1)).mono ?_
              rintro e we ⟨Ae, ne, ce, rfl, ho, hb⟩
              refine ⟨_, rfl, ?_⟩
              obtain rfl := (Kd.R_reads' ho).1
              have HBe := Aside0.mk (HBt.out.to hb)
              have HCe := Aside0.mk (HCt.out.to hb)
              have HOe := Aside0.mk (Kd.R_below HOt.out hb)
              have HOf := Aside0.mk ho
              clear ho hb
              refine hK.out _ _ ⟨(blk_cell HBe.out.blk 0).trans rfl, (blk_cell HBe.out.blk 1).trans rfl, (blk_cell HBe.out.blk 2).trans rfl, (blk_cell HBe.out.blk 3).trans rfl, (blk_cell HBe.out.blk 4).trans rfl, (blk_cell HBe.out.blk 5).trans rfl⟩ (fun hHeld => ?_)
              clear hK K
              refine norm_ (a' := ?_) ?_ ?_
              rotate_left
              · show Act.put _ (some 71) _ = _
                simp only [Act.put, List.setIfInBounds_toArray, List.set_cons_zero, List.set_cons_succ, i64_w, i32_w]
                rfl
              refine one_ (i := 6) (N := some 72) #[true, true, true, true, true, true, true, false] rfl rfl (by kernel_rfl) (by decide) (fun K hK => ?_)
              refine goes_ Try.func36 (by kernel_rfl) rfl #[.slice At (entV f (x + 1)).length ct, .slice Ae (entV f (x + 1)).length ce] (by rfl) rfl rfl (by simp only [List.map_toArray, List.map_cons, List.map_nil]; rfl) ?_
              with_reducible refine (PC.portholeref01_Same.calls 5 At ct (entV f (x + 1)) Ae ce (entV f (x + 1)) true _ (Kd.R_reads' HOe.out).2.2 (Kd.R_reads' HOe.out).2.1 (Kd.R_reads' HOf.out).2.2 (Kd.R_reads' HOf.out).2.1 (same_self _ (entV_le f (x + 1)))).mono ?_
              rintro e wz ⟨rfl, hdr⟩
              refine ⟨_, rfl, ?_⟩
              obtain ⟨nd, hnd⟩ := hdr.out
              have hbd := pw_below_drewN (Below.refl we.heap.size we) nd
              rw [← hnd] at hbd
              have HBz := Aside0.mk (HBe.out.to hbd)
              have HCz := Aside0.mk (HCe.out.to hbd)
              clear hdr hnd hbd
              refine hK.out _ _ ⟨(blk_cell HBz.out.blk 0).trans rfl, (blk_cell HBz.out.blk 1).trans rfl, (blk_cell HBz.out.blk 2).trans rfl, (blk_cell HBz.out.blk 3).trans rfl, (blk_cell HBz.out.blk 4).trans rfl, (blk_cell HBz.out.blk 5).trans rfl⟩ (fun hHeld => ?_)
              clear hK K
              refine norm_ (a' := ?_) ?_ ?_
              rotate_left
              · show Act.put _ (some 72) _ = _
                simp only [Act.put, List.setIfInBounds_toArray, List.set_cons_zero, List.set_cons_succ, i64_w, i32_w]
                rfl
              refine pure_ (i := 7) (N := some 73) (v := ?_) (a' := ?_) #[true, true, true, true, true, true, true, true] rfl rfl (by kernel_rfl) (fun _ _ _ h => h) (Or.inl ⟨by rfl, ?_⟩) ?_ ?_
              rotate_left
              · intro w'
                go_simp
                with_reducible rfl
              rotate_left
              · simp only [Act.put, List.setIfInBounds_toArray, List.set_cons_zero, List.set_cons_succ, i64_w, i32_w]
                rfl
              refine done_ (by kernel_rfl) ?_
              go_wp2
              go_roundw
              case rel => exact ⟨x + 1, by omega, by omega, by go_num, HCz, HBz⟩
              case measure => simp [intOf]; omega
        · obtain rfl : x = n := by omega
          have hd : decide (x < x) = false := decide_eq_false (by omega)
          go_wp2
          go_ret
          exact ⟨rfl, HB.out.bel⟩
theorem CoreTicks_walk (W : World) (cs : Array Value) (x : List S69 × List S87 × (Int × List S46) × (Int × List S46)) (hK : kCfg.K W x (Value.agg cs).cells.toList) (hV : VC x) (n : Int) (hn : (Lit.int .u8 n).wf = true) (other : Int) (ho : (Lit.int .i64 other).wf = true) :
    Calls Try.prog 14 #[.agg cs, .int .u8 n, .int .i64 other] W fun e w' => e = .returned (.bool true) ∧ Below W.heap.size W w' :=
  CoreTicks_go (isCfg_of hK) n other (bounds_u8 hn)
end Go.Proofs.Ytndmdlnmjamgkaa.Core
