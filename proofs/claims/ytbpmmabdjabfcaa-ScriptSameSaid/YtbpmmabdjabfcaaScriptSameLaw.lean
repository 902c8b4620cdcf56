import Derived.Test.YtbpmmabdjabfcaaScriptWakes
import Derived.Test.YtbpmmabdjabfcaaScriptGreat
import Derived.Test.YtbpmmabdjabfcaaScriptSame
import Derived.Test.YtbpmmabdjabfcaaScriptOpn
/- ScriptSame: two jobs are the same just if all of them is. Written by wip/scriptlaws.py. -/
namespace Go.Proofs.Ytbpmmabdjabfcaa.Script
open Go.RowKit Go.Proofs.YtbpmmabdjabfcaaW.PrintWords Go.Proofs.YtbpmmabdjabfcaaW.PrintLast Go.Proofs.YtbpmmabdjabfcaaW.PrintMore Go.Proofs.Ytbpmmabdjabfcaa.Box Go.Proofs.Ytbpmmabdjabfcaa.PT Go.Proofs.Ytbpmmabdjabfcaa.Table
set_option linter.unusedSimpArgs false
set_option linter.unusedVariables false
theorem great_short {c : Cfg} (h : greatB c = false) : Short c := by
  unfold greatB at h
  simp only [Bool.or_eq_false_iff, decide_eq_false_iff_not] at h
  exact ⟨by omega, by omega, by omega, by omega⟩
theorem greatJ_short {j : Job} (h : greatJ j = false) (h3 : ∀ l ∈ j.streams, l.length ≤ 9223372036854775807) (h4 : ∀ l ∈ j.streams, ∀ q ∈ l, q.data.length ≤ 9223372036854775807) : ShortJ j := by
  unfold greatJ at h
  simp only [Bool.or_eq_false_iff, decide_eq_false_iff_not] at h
  exact ⟨great_short h.1, by omega, by omega, h3, h4⟩
set_option maxRecDepth 20000 in
set_option maxHeartbeats 8000000 in
theorem ScriptSame_go {w : World} {a b : Job} {A0 : Option Addr} {cA0 : Nat} {A1 : Option Addr} {cA1 : Nat} {A2 : Option Addr} {cA2 : Nat} {A3 : Option Addr} {cA3 : Nat} {A4 : Option Addr} {cA4 : Nat} {A5 : Option Addr} {cA5 : Nat} {B0 : Option Addr} {cB0 : Nat} {B1 : Option Addr} {cB1 : Nat} {B2 : Option Addr} {cB2 : Nat} {B3 : Option Addr} {cB3 : Nat} {B4 : Option Addr} {cB4 : Nat} {B5 : Option Addr} {cB5 : Nat} (ha : IsJob w a A0 cA0 A1 cA1 A2 cA2 A3 cA3 A4 cA4 A5 cA5) (hb : IsJob w b B0 cB0 B1 cB1 B2 cB2 B3 cB3 B4 cB4 B5 cB5)
    (ka : a.streams.length ≤ 9223372036854775807 ∧ (∀ l ∈ a.streams, l.length ≤ 9223372036854775807) ∧ ∀ l ∈ a.streams, ∀ q ∈ l, q.data.length ≤ 9223372036854775807)
    (kb : b.streams.length ≤ 9223372036854775807 ∧ (∀ l ∈ b.streams, l.length ≤ 9223372036854775807) ∧ ∀ l ∈ b.streams, ∀ q ∈ l, q.data.length ≤ 9223372036854775807) :
    Calls Try.prog 12 #[.agg #[.slice A0 a.cfg.ps.length cA0, .slice A1 a.cfg.xs.length cA1, .int .i64 a.cfg.l0, .slice A2 a.cfg.ws0.length cA2, .int .i64 a.cfg.l1, .slice A3 a.cfg.ws1.length cA3, .slice A4 a.streams.length cA4, .slice A5 a.acts.length cA5], .agg #[.slice B0 b.cfg.ps.length cB0, .slice B1 b.cfg.xs.length cB1, .int .i64 b.cfg.l0, .slice B2 b.cfg.ws0.length cB2, .int .i64 b.cfg.l1, .slice B3 b.cfg.ws1.length cB3, .slice B4 b.streams.length cB4, .slice B5 b.acts.length cB5]] w fun e w' => e = .returned (.bool true) ∧ Below w.heap.size w w' := by
  have HWK := Aside0.mk (fun (W : World) => wakes25 W)
  have HP := Aside0.mk (SJ.start w (.slice A0 a.cfg.ps.length cA0) (.slice A1 a.cfg.xs.length cA1) (.int .i64 a.cfg.l0) (.slice A2 a.cfg.ws0.length cA2) (.int .i64 a.cfg.l1) (.slice A3 a.cfg.ws1.length cA3) (.slice A4 a.streams.length cA4) (.slice A5 a.acts.length cA5) (.slice B0 b.cfg.ps.length cB0) (.slice B1 b.cfg.xs.length cB1) (.int .i64 b.cfg.l0) (.slice B2 b.cfg.ws0.length cB2) (.int .i64 b.cfg.l1) (.slice B3 b.cfg.ws1.length cB3) (.slice B4 b.streams.length cB4) (.slice B5 b.acts.length cB5))
  have hga := fun (X : World) (hX : Below w.heap.size w X) => great_exact (ha.below hX) ka.1 ka.2.1
  have hgb := fun (X : World) (hX : Below w.heap.size w X) => great_exact (hb.below hX) kb.1 kb.2.1
  obtain ⟨ga, ega⟩ : ∃ g, greatJ a = g := ⟨_, rfl⟩
  obtain ⟨gb, egb⟩ : ∃ g, greatJ b = g := ⟨_, rfl⟩
  obtain ⟨q, eq_⟩ : ∃ t, decide (a = b) = t := ⟨_, rfl⟩
  rw [ega] at hga
  rw [egb] at hgb
  have HGA := Aside0.mk hga
  have HGB := Aside0.mk hgb
  have HPS : Aside0 (ga = false → ∀ X : World, Below w.heap.size w X → Calls Try.prog 29 #[.agg #[.slice A0 a.cfg.ps.length cA0, .slice A1 a.cfg.xs.length cA1, .int .i64 a.cfg.l0, .slice A2 a.cfg.ws0.length cA2, .int .i64 a.cfg.l1, .slice A3 a.cfg.ws1.length cA3, .slice A4 a.streams.length cA4, .slice A5 a.acts.length cA5], .agg #[.slice B0 b.cfg.ps.length cB0, .slice B1 b.cfg.xs.length cB1, .int .i64 b.cfg.l0, .slice B2 b.cfg.ws0.length cB2, .int .i64 b.cfg.l1, .slice B3 b.cfg.ws1.length cB3, .slice B4 b.streams.length cB4, .slice B5 b.acts.length cB5]] X fun e w' => e = .returned (.bool q) ∧ Below X.heap.size X w') := ⟨fun e X hX => by
    have h := same_job (ha.below hX) (hb.below hX) (greatJ_short (ega.trans e) ka.2.1 ka.2.2)
    rw [eq_] at h
    exact h⟩
  have HRS : Aside0 (ga = false → ∀ X : World, Below w.heap.size w X → Calls Try.prog 28 #[.agg #[.slice A0 a.cfg.ps.length cA0, .slice A1 a.cfg.xs.length cA1, .int .i64 a.cfg.l0, .slice A2 a.cfg.ws0.length cA2, .int .i64 a.cfg.l1, .slice A3 a.cfg.ws1.length cA3, .slice A4 a.streams.length cA4, .slice A5 a.acts.length cA5], .agg #[.slice B0 b.cfg.ps.length cB0, .slice B1 b.cfg.xs.length cB1, .int .i64 b.cfg.l0, .slice B2 b.cfg.ws0.length cB2, .int .i64 b.cfg.l1, .slice B3 b.cfg.ws1.length cB3, .slice B4 b.streams.length cB4, .slice B5 b.acts.length cB5]] X fun e w' => e = .returned (.bool q) ∧ Below X.heap.size X w') := ⟨fun e X hX => by
    have h := refsame_job (ha.below hX) (hb.below hX) (greatJ_short (ega.trans e) ka.2.1 ka.2.2)
    rw [eq_] at h
    exact h⟩
  have HAA : Aside0 (ga = false → ∀ X : World, Below w.heap.size w X → Calls Try.prog 29 #[.agg #[.slice A0 a.cfg.ps.length cA0, .slice A1 a.cfg.xs.length cA1, .int .i64 a.cfg.l0, .slice A2 a.cfg.ws0.length cA2, .int .i64 a.cfg.l1, .slice A3 a.cfg.ws1.length cA3, .slice A4 a.streams.length cA4, .slice A5 a.acts.length cA5], .agg #[.slice A0 a.cfg.ps.length cA0, .slice A1 a.cfg.xs.length cA1, .int .i64 a.cfg.l0, .slice A2 a.cfg.ws0.length cA2, .int .i64 a.cfg.l1, .slice A3 a.cfg.ws1.length cA3, .slice A4 a.streams.length cA4, .slice A5 a.acts.length cA5]] X fun e w' => e = .returned (.bool true) ∧ Below X.heap.size X w') := ⟨fun e X hX => by
    have h := same_job (ha.below hX) (ha.below hX) (greatJ_short (ega.trans e) ka.2.1 ka.2.2)
    rw [decide_eq_true (rfl : a = a)] at h
    exact h⟩
  clear ha hb ka kb hga hgb ega egb eq_
  go_enter Try.func12, Try.ntmps12
  go_wp2_with fail
  refine (HWK.out _).mono ?_
  rintro e w2 ⟨rfl, hbw⟩
  have HP2 := Aside0.mk (HP.out.to hbw)
  clear hbw HWK HP
  go_upto_region 3 with fail
  cases ga with
  | true =>
    refine start_ (n := 21) (S := fun w' => w'.cell? ⟨w.heap.size, 0, none⟩ = some (.slice A0 a.cfg.ps.length cA0) ∧ w'.cell? ⟨w.heap.size, 1, none⟩ = some (.slice A1 a.cfg.xs.length cA1) ∧ w'.cell? ⟨w.heap.size, 2, none⟩ = some (.int .i64 a.cfg.l0) ∧ w'.cell? ⟨w.heap.size, 3, none⟩ = some (.slice A2 a.cfg.ws0.length cA2) ∧ w'.cell? ⟨w.heap.size, 4, none⟩ = some (.int .i64 a.cfg.l1) ∧ w'.cell? ⟨w.heap.size, 5, none⟩ = some (.slice A3 a.cfg.ws1.length cA3) ∧ w'.cell? ⟨w.heap.size, 6, none⟩ = some (.slice A4 a.streams.length cA4) ∧ w'.cell? ⟨w.heap.size, 7, none⟩ = some (.slice A5 a.acts.length cA5) ∧ w'.cell? ⟨w.heap.size + 1, 0, none⟩ = some (.slice B0 b.cfg.ps.length cB0) ∧ w'.cell? ⟨w.heap.size + 1, 1, none⟩ = some (.slice B1 b.cfg.xs.length cB1) ∧ w'.cell? ⟨w.heap.size + 1, 2, none⟩ = some (.int .i64 b.cfg.l0) ∧ w'.cell? ⟨w.heap.size + 1, 3, none⟩ = some (.slice B2 b.cfg.ws0.length cB2) ∧ w'.cell? ⟨w.heap.size + 1, 4, none⟩ = some (.int .i64 b.cfg.l1) ∧ w'.cell? ⟨w.heap.size + 1, 5, none⟩ = some (.slice B3 b.cfg.ws1.length cB3) ∧ w'.cell? ⟨w.heap.size + 1, 6, none⟩ = some (.slice B4 b.streams.length cB4) ∧ w'.cell? ⟨w.heap.size + 1, 7, none⟩ = some (.slice B5 b.acts.length cB5)) (ds := []) #[false, false, false, false, false, false, false, false, false, false, false, false, false, false, false, false, false, false, false, false, false] (by kernel_rfl) rfl rfl ⟨HP2.out.drew.a0, HP2.out.drew.a1, HP2.out.drew.a2, HP2.out.drew.a3, HP2.out.drew.a4, HP2.out.drew.a5, HP2.out.drew.a6, HP2.out.drew.a7, HP2.out.drew.b0, HP2.out.drew.b1, HP2.out.drew.b2, HP2.out.drew.b3, HP2.out.drew.b4, HP2.out.drew.b5, HP2.out.drew.b6, HP2.out.drew.b7⟩ (fun hHeld => ?_)
    refine take_ (i := 0) (N := some 7) (v := ?_) (a' := ?_) #[true, false, false, false, false, false, false, false, false, false, false, false, false, false, false, false, false, false, false, false, false] rfl rfl (by kernel_rfl) (fun _ _ _ h => h) (Or.inl ⟨by rfl, ?_⟩) hHeld ?_ ?_
    rotate_left
    · rintro w' ⟨s0, s1, s2, s3, s4, s5, s6, s7, s8, s9, s10, s11, s12, s13, s14, s15⟩
      go_simp
      with_reducible rfl
    rotate_left
    · simp only [Act.put, List.setIfInBounds_toArray, List.set_cons_zero, List.set_cons_succ, i64_w, i32_w]
      rfl
    refine one_ (i := 1) (N := some 8) #[true, true, false, false, false, false, false, false, false, false, false, false, false, false, false, false, false, false, false, false, false] rfl rfl (by kernel_rfl) (by decide) (fun K hK => ?_)
    refine goes_ Try.func23 (by kernel_rfl) rfl #[.agg #[.slice A0 a.cfg.ps.length cA0, .slice A1 a.cfg.xs.length cA1, .int .i64 a.cfg.l0, .slice A2 a.cfg.ws0.length cA2, .int .i64 a.cfg.l1, .slice A3 a.cfg.ws1.length cA3, .slice A4 a.streams.length cA4, .slice A5 a.acts.length cA5]] (by rfl) rfl rfl (by simp only [List.map_toArray, List.map_cons, List.map_nil]; rfl) ?_
    with_reducible refine (HGA.out _ HP2.out.drew.bel).mono ?_
    rintro e w3 ⟨rfl, hbw⟩
    refine ⟨_, rfl, ?_⟩
    have HX3 := Aside0.mk (HP2.out.drew.to hbw)
    clear hbw
    refine hK.out _ _ ⟨HX3.out.a0, HX3.out.a1, HX3.out.a2, HX3.out.a3, HX3.out.a4, HX3.out.a5, HX3.out.a6, HX3.out.a7, HX3.out.b0, HX3.out.b1, HX3.out.b2, HX3.out.b3, HX3.out.b4, HX3.out.b5, HX3.out.b6, HX3.out.b7⟩ (fun hHeld => ?_)
    clear hK K
    refine norm_ (a' := ?_) ?_ ?_
    rotate_left
    · show Act.put _ (some 8) _ = _
      simp only [Act.put, List.setIfInBounds_toArray, List.set_cons_zero, List.set_cons_succ, i64_w, i32_w]
      rfl
    refine pure_ (i := 2) (N := some 9) (v := ?_) (a' := ?_) #[true, true, true, false, false, false, false, false, false, false, false, false, false, false, false, false, false, false, false, false, false] rfl rfl (by kernel_rfl) (fun _ _ _ h => h) (Or.inl ⟨by rfl, ?_⟩) ?_ ?_
    rotate_left
    · intro w'
      go_simp
      with_reducible rfl
    rotate_left
    · simp only [Act.put, List.setIfInBounds_toArray, List.set_cons_zero, List.set_cons_succ, i64_w, i32_w]
      rfl
    refine pure_ (i := 3) (N := some 10) (v := undef) (a' := ?_) #[true, true, true, true, false, false, false, false, false, false, false, false, false, false, false, false, false, false, false, false, false] rfl rfl (by kernel_rfl) (fun _ _ _ h => h) (Or.inr ⟨by rfl, rfl⟩) ?_ ?_
    rotate_left
    · simp only [Act.put, List.setIfInBounds_toArray, List.set_cons_zero, List.set_cons_succ, i64_w, i32_w]
      rfl
    refine pure_ (i := 4) (N := some 11) (v := undef) (a' := ?_) #[true, true, true, true, true, false, false, false, false, false, false, false, false, false, false, false, false, false, false, false, false] rfl rfl (by kernel_rfl) (fun _ _ _ h => h) (Or.inr ⟨by rfl, rfl⟩) ?_ ?_
    rotate_left
    · simp only [Act.put, List.setIfInBounds_toArray, List.set_cons_zero, List.set_cons_succ, i64_w, i32_w]
      rfl
    refine pure_ (i := 5) (N := some 12) (v := ?_) (a' := ?_) #[true, true, true, true, true, true, false, false, false, false, false, false, false, false, false, false, false, false, false, false, false] rfl rfl (by kernel_rfl) (fun _ _ _ h => h) (Or.inl ⟨by rfl, ?_⟩) ?_ ?_
    rotate_left
    · intro w'
      go_simp
      with_reducible rfl
    rotate_left
    · simp only [Act.put, List.setIfInBounds_toArray, List.set_cons_zero, List.set_cons_succ, i64_w, i32_w]
      rfl
    refine pure_ (i := 6) (N := some 13) (v := ?_) (a' := ?_) #[true, true, true, true, true, true, true, false, false, false, false, false, false, false, false, false, false, false, false, false, false] rfl rfl (by kernel_rfl) (fun _ _ _ h => h) (Or.inl ⟨by rfl, ?_⟩) ?_ ?_
    rotate_left
    · intro w'
      go_simp
      with_reducible rfl
    rotate_left
    · simp only [Act.put, List.setIfInBounds_toArray, List.set_cons_zero, List.set_cons_succ, i64_w, i32_w]
      rfl
    refine pure_ (i := 7) (N := some 14) (v := undef) (a' := ?_) #[true, true, true, true, true, true, true, true, false, false, false, false, false, false, false, false, false, false, false, false, false] rfl rfl (by kernel_rfl) (fun _ _ _ h => h) (Or.inr ⟨by rfl, rfl⟩) ?_ ?_
    rotate_left
    · simp only [Act.put, List.setIfInBounds_toArray, List.set_cons_zero, List.set_cons_succ, i64_w, i32_w]
      rfl
    refine pure_ (i := 8) (N := some 15) (v := undef) (a' := ?_) #[true, true, true, true, true, true, true, true, true, false, false, false, false, false, false, false, false, false, false, false, false] rfl rfl (by kernel_rfl) (fun _ _ _ h => h) (Or.inr ⟨by rfl, rfl⟩) ?_ ?_
    rotate_left
    · simp only [Act.put, List.setIfInBounds_toArray, List.set_cons_zero, List.set_cons_succ, i64_w, i32_w]
      rfl
    refine pure_ (i := 9) (N := some 16) (v := undef) (a' := ?_) #[true, true, true, true, true, true, true, true, true, true, false, false, false, false, false, false, false, false, false, false, false] rfl rfl (by kernel_rfl) (fun _ _ _ h => h) (Or.inr ⟨by rfl, rfl⟩) ?_ ?_
    rotate_left
    · simp only [Act.put, List.setIfInBounds_toArray, List.set_cons_zero, List.set_cons_succ, i64_w, i32_w]
      rfl
    refine pure_ (i := 10) (N := some 17) (v := undef) (a' := ?_) #[true, true, true, true, true, true, true, true, true, true, true, false, false, false, false, false, false, false, false, false, false] rfl rfl (by kernel_rfl) (fun _ _ _ h => h) (Or.inr ⟨by rfl, rfl⟩) ?_ ?_
    rotate_left
    · simp only [Act.put, List.setIfInBounds_toArray, List.set_cons_zero, List.set_cons_succ, i64_w, i32_w]
      rfl
    refine pure_ (i := 11) (N := some 18) (v := undef) (a' := ?_) #[true, true, true, true, true, true, true, true, true, true, true, true, false, false, false, false, false, false, false, false, false] rfl rfl (by kernel_rfl) (fun _ _ _ h => h) (Or.inr ⟨by rfl, rfl⟩) ?_ ?_
    rotate_left
    · simp only [Act.put, List.setIfInBounds_toArray, List.set_cons_zero, List.set_cons_succ, i64_w, i32_w]
      rfl
    refine pure_ (i := 12) (N := some 19) (v := undef) (a' := ?_) #[true, true, true, true, true, true, true, true, true, true, true, true, true, false, false, false, false, false, false, false, false] rfl rfl (by kernel_rfl) (fun _ _ _ h => h) (Or.inr ⟨by rfl, rfl⟩) ?_ ?_
    rotate_left
    · simp only [Act.put, List.setIfInBounds_toArray, List.set_cons_zero, List.set_cons_succ, i64_w, i32_w]
      rfl
    refine pure_ (i := 13) (N := some 20) (v := undef) (a' := ?_) #[true, true, true, true, true, true, true, true, true, true, true, true, true, true, false, false, false, false, false, false, false] rfl rfl (by kernel_rfl) (fun _ _ _ h => h) (Or.inr ⟨by rfl, rfl⟩) ?_ ?_
    rotate_left
    · simp only [Act.put, List.setIfInBounds_toArray, List.set_cons_zero, List.set_cons_succ, i64_w, i32_w]
      rfl
    refine pure_ (i := 14) (N := some 21) (v := undef) (a' := ?_) #[true, true, true, true, true, true, true, true, true, true, true, true, true, true, true, false, false, false, false, false, false] rfl rfl (by kernel_rfl) (fun _ _ _ h => h) (Or.inr ⟨by rfl, rfl⟩) ?_ ?_
    rotate_left
    · simp only [Act.put, List.setIfInBounds_toArray, List.set_cons_zero, List.set_cons_succ, i64_w, i32_w]
      rfl
    refine pure_ (i := 15) (N := some 22) (v := undef) (a' := ?_) #[true, true, true, true, true, true, true, true, true, true, true, true, true, true, true, true, false, false, false, false, false] rfl rfl (by kernel_rfl) (fun _ _ _ h => h) (Or.inr ⟨by rfl, rfl⟩) ?_ ?_
    rotate_left
    · simp only [Act.put, List.setIfInBounds_toArray, List.set_cons_zero, List.set_cons_succ, i64_w, i32_w]
      rfl
    refine pure_ (i := 16) (N := some 23) (v := undef) (a' := ?_) #[true, true, true, true, true, true, true, true, true, true, true, true, true, true, true, true, true, false, false, false, false] rfl rfl (by kernel_rfl) (fun _ _ _ h => h) (Or.inr ⟨by rfl, rfl⟩) ?_ ?_
    rotate_left
    · simp only [Act.put, List.setIfInBounds_toArray, List.set_cons_zero, List.set_cons_succ, i64_w, i32_w]
      rfl
    refine pure_ (i := 17) (N := some 24) (v := undef) (a' := ?_) #[true, true, true, true, true, true, true, true, true, true, true, true, true, true, true, true, true, true, false, false, false] rfl rfl (by kernel_rfl) (fun _ _ _ h => h) (Or.inr ⟨by rfl, rfl⟩) ?_ ?_
    rotate_left
    · simp only [Act.put, List.setIfInBounds_toArray, List.set_cons_zero, List.set_cons_succ, i64_w, i32_w]
      rfl
    refine pure_ (i := 18) (N := some 25) (v := undef) (a' := ?_) #[true, true, true, true, true, true, true, true, true, true, true, true, true, true, true, true, true, true, true, false, false] rfl rfl (by kernel_rfl) (fun _ _ _ h => h) (Or.inr ⟨by rfl, rfl⟩) ?_ ?_
    rotate_left
    · simp only [Act.put, List.setIfInBounds_toArray, List.set_cons_zero, List.set_cons_succ, i64_w, i32_w]
      rfl
    refine pure_ (i := 19) (N := some 26) (v := ?_) (a' := ?_) #[true, true, true, true, true, true, true, true, true, true, true, true, true, true, true, true, true, true, true, true, false] rfl rfl (by kernel_rfl) (fun _ _ _ h => h) (Or.inl ⟨by rfl, ?_⟩) ?_ ?_
    rotate_left
    · intro w'
      go_simp
      with_reducible rfl
    rotate_left
    · simp only [Act.put, List.setIfInBounds_toArray, List.set_cons_zero, List.set_cons_succ, i64_w, i32_w]
      rfl
    refine pure_ (i := 20) (N := some 4) (v := ?_) (a' := ?_) #[true, true, true, true, true, true, true, true, true, true, true, true, true, true, true, true, true, true, true, true, true] rfl rfl (by kernel_rfl) (fun _ _ _ h => h) (Or.inl ⟨by rfl, ?_⟩) ?_ ?_
    rotate_left
    · intro w'
      go_simp
      with_reducible rfl
    rotate_left
    · simp only [Act.put, List.setIfInBounds_toArray, List.set_cons_zero, List.set_cons_succ, i64_w, i32_w]
      rfl
    refine done_ (by kernel_rfl) ?_
    go_wp2
    go_ret
    exact ⟨rfl, HX3.out.bel⟩
  | false =>
    have HPS := Aside0.mk (HPS.out rfl)
    have HRS := Aside0.mk (HRS.out rfl)
    have HAA := Aside0.mk (HAA.out rfl)
    cases gb with
    | true =>
      refine start_ (n := 21) (S := fun w' => w'.cell? ⟨w.heap.size, 0, none⟩ = some (.slice A0 a.cfg.ps.length cA0) ∧ w'.cell? ⟨w.heap.size, 1, none⟩ = some (.slice A1 a.cfg.xs.length cA1) ∧ w'.cell? ⟨w.heap.size, 2, none⟩ = some (.int .i64 a.cfg.l0) ∧ w'.cell? ⟨w.heap.size, 3, none⟩ = some (.slice A2 a.cfg.ws0.length cA2) ∧ w'.cell? ⟨w.heap.size, 4, none⟩ = some (.int .i64 a.cfg.l1) ∧ w'.cell? ⟨w.heap.size, 5, none⟩ = some (.slice A3 a.cfg.ws1.length cA3) ∧ w'.cell? ⟨w.heap.size, 6, none⟩ = some (.slice A4 a.streams.length cA4) ∧ w'.cell? ⟨w.heap.size, 7, none⟩ = some (.slice A5 a.acts.length cA5) ∧ w'.cell? ⟨w.heap.size + 1, 0, none⟩ = some (.slice B0 b.cfg.ps.length cB0) ∧ w'.cell? ⟨w.heap.size + 1, 1, none⟩ = some (.slice B1 b.cfg.xs.length cB1) ∧ w'.cell? ⟨w.heap.size + 1, 2, none⟩ = some (.int .i64 b.cfg.l0) ∧ w'.cell? ⟨w.heap.size + 1, 3, none⟩ = some (.slice B2 b.cfg.ws0.length cB2) ∧ w'.cell? ⟨w.heap.size + 1, 4, none⟩ = some (.int .i64 b.cfg.l1) ∧ w'.cell? ⟨w.heap.size + 1, 5, none⟩ = some (.slice B3 b.cfg.ws1.length cB3) ∧ w'.cell? ⟨w.heap.size + 1, 6, none⟩ = some (.slice B4 b.streams.length cB4) ∧ w'.cell? ⟨w.heap.size + 1, 7, none⟩ = some (.slice B5 b.acts.length cB5)) (ds := []) #[false, false, false, false, false, false, false, false, false, false, false, false, false, false, false, false, false, false, false, false, false] (by kernel_rfl) rfl rfl ⟨HP2.out.drew.a0, HP2.out.drew.a1, HP2.out.drew.a2, HP2.out.drew.a3, HP2.out.drew.a4, HP2.out.drew.a5, HP2.out.drew.a6, HP2.out.drew.a7, HP2.out.drew.b0, HP2.out.drew.b1, HP2.out.drew.b2, HP2.out.drew.b3, HP2.out.drew.b4, HP2.out.drew.b5, HP2.out.drew.b6, HP2.out.drew.b7⟩ (fun hHeld => ?_)
      refine take_ (i := 0) (N := some 7) (v := ?_) (a' := ?_) #[true, false, false, false, false, false, false, false, false, false, false, false, false, false, false, false, false, false, false, false, false] rfl rfl (by kernel_rfl) (fun _ _ _ h => h) (Or.inl ⟨by rfl, ?_⟩) hHeld ?_ ?_
      rotate_left
      · rintro w' ⟨s0, s1, s2, s3, s4, s5, s6, s7, s8, s9, s10, s11, s12, s13, s14, s15⟩
        go_simp
        with_reducible rfl
      rotate_left
      · simp only [Act.put, List.setIfInBounds_toArray, List.set_cons_zero, List.set_cons_succ, i64_w, i32_w]
        rfl
      refine one_ (i := 1) (N := some 8) #[true, true, false, false, false, false, false, false, false, false, false, false, false, false, false, false, false, false, false, false, false] rfl rfl (by kernel_rfl) (by decide) (fun K hK => ?_)
      refine goes_ Try.func23 (by kernel_rfl) rfl #[.agg #[.slice A0 a.cfg.ps.length cA0, .slice A1 a.cfg.xs.length cA1, .int .i64 a.cfg.l0, .slice A2 a.cfg.ws0.length cA2, .int .i64 a.cfg.l1, .slice A3 a.cfg.ws1.length cA3, .slice A4 a.streams.length cA4, .slice A5 a.acts.length cA5]] (by rfl) rfl rfl (by simp only [List.map_toArray, List.map_cons, List.map_nil]; rfl) ?_
      with_reducible refine (HGA.out _ HP2.out.drew.bel).mono ?_
      rintro e w3 ⟨rfl, hbw⟩
      refine ⟨_, rfl, ?_⟩
      have HX3 := Aside0.mk (HP2.out.drew.to hbw)
      clear hbw
      refine hK.out _ _ ⟨HX3.out.a0, HX3.out.a1, HX3.out.a2, HX3.out.a3, HX3.out.a4, HX3.out.a5, HX3.out.a6, HX3.out.a7, HX3.out.b0, HX3.out.b1, HX3.out.b2, HX3.out.b3, HX3.out.b4, HX3.out.b5, HX3.out.b6, HX3.out.b7⟩ (fun hHeld => ?_)
      clear hK K
      refine norm_ (a' := ?_) ?_ ?_
      rotate_left
      · show Act.put _ (some 8) _ = _
        simp only [Act.put, List.setIfInBounds_toArray, List.set_cons_zero, List.set_cons_succ, i64_w, i32_w]
        rfl
      refine pure_ (i := 2) (N := some 9) (v := ?_) (a' := ?_) #[true, true, true, false, false, false, false, false, false, false, false, false, false, false, false, false, false, false, false, false, false] rfl rfl (by kernel_rfl) (fun _ _ _ h => h) (Or.inl ⟨by rfl, ?_⟩) ?_ ?_
      rotate_left
      · intro w'
        go_simp
        with_reducible rfl
      rotate_left
      · simp only [Act.put, List.setIfInBounds_toArray, List.set_cons_zero, List.set_cons_succ, i64_w, i32_w]
        rfl
      refine take_ (i := 3) (N := some 10) (v := ?_) (a' := ?_) #[true, true, true, true, false, false, false, false, false, false, false, false, false, false, false, false, false, false, false, false, false] rfl rfl (by kernel_rfl) (fun _ _ _ h => h) (Or.inl ⟨by rfl, ?_⟩) hHeld ?_ ?_
      rotate_left
      · rintro w' ⟨s0, s1, s2, s3, s4, s5, s6, s7, s8, s9, s10, s11, s12, s13, s14, s15⟩
        go_simp
        with_reducible rfl
      rotate_left
      · simp only [Act.put, List.setIfInBounds_toArray, List.set_cons_zero, List.set_cons_succ, i64_w, i32_w]
        rfl
      refine one_ (i := 4) (N := some 11) #[true, true, true, true, true, false, false, false, false, false, false, false, false, false, false, false, false, false, false, false, false] rfl rfl (by kernel_rfl) (by decide) (fun K hK => ?_)
      refine goes_ Try.func23 (by kernel_rfl) rfl #[.agg #[.slice B0 b.cfg.ps.length cB0, .slice B1 b.cfg.xs.length cB1, .int .i64 b.cfg.l0, .slice B2 b.cfg.ws0.length cB2, .int .i64 b.cfg.l1, .slice B3 b.cfg.ws1.length cB3, .slice B4 b.streams.length cB4, .slice B5 b.acts.length cB5]] (by rfl) rfl rfl (by simp only [List.map_toArray, List.map_cons, List.map_nil]; rfl) ?_
      with_reducible refine (HGB.out _ HX3.out.bel).mono ?_
      rintro e w4 ⟨rfl, hbw⟩
      refine ⟨_, rfl, ?_⟩
      have HX4 := Aside0.mk (HX3.out.to hbw)
      clear hbw
      refine hK.out _ _ ⟨HX4.out.a0, HX4.out.a1, HX4.out.a2, HX4.out.a3, HX4.out.a4, HX4.out.a5, HX4.out.a6, HX4.out.a7, HX4.out.b0, HX4.out.b1, HX4.out.b2, HX4.out.b3, HX4.out.b4, HX4.out.b5, HX4.out.b6, HX4.out.b7⟩ (fun hHeld => ?_)
      clear hK K
      refine norm_ (a' := ?_) ?_ ?_
      rotate_left
      · show Act.put _ (some 11) _ = _
        simp only [Act.put, List.setIfInBounds_toArray, List.set_cons_zero, List.set_cons_succ, i64_w, i32_w]
        rfl
      refine pure_ (i := 5) (N := some 12) (v := ?_) (a' := ?_) #[true, true, true, true, true, true, false, false, false, false, false, false, false, false, false, false, false, false, false, false, false] rfl rfl (by kernel_rfl) (fun _ _ _ h => h) (Or.inl ⟨by rfl, ?_⟩) ?_ ?_
      rotate_left
      · intro w'
        go_simp
        with_reducible rfl
      rotate_left
      · simp only [Act.put, List.setIfInBounds_toArray, List.set_cons_zero, List.set_cons_succ, i64_w, i32_w]
        rfl
      refine pure_ (i := 6) (N := some 13) (v := ?_) (a' := ?_) #[true, true, true, true, true, true, true, false, false, false, false, false, false, false, false, false, false, false, false, false, false] rfl rfl (by kernel_rfl) (fun _ _ _ h => h) (Or.inl ⟨by rfl, ?_⟩) ?_ ?_
      rotate_left
      · intro w'
        go_simp
        with_reducible rfl
      rotate_left
      · simp only [Act.put, List.setIfInBounds_toArray, List.set_cons_zero, List.set_cons_succ, i64_w, i32_w]
        rfl
      refine pure_ (i := 7) (N := some 14) (v := undef) (a' := ?_) #[true, true, true, true, true, true, true, true, false, false, false, false, false, false, false, false, false, false, false, false, false] rfl rfl (by kernel_rfl) (fun _ _ _ h => h) (Or.inr ⟨by rfl, rfl⟩) ?_ ?_
      rotate_left
      · simp only [Act.put, List.setIfInBounds_toArray, List.set_cons_zero, List.set_cons_succ, i64_w, i32_w]
        rfl
      refine pure_ (i := 8) (N := some 15) (v := undef) (a' := ?_) #[true, true, true, true, true, true, true, true, true, false, false, false, false, false, false, false, false, false, false, false, false] rfl rfl (by kernel_rfl) (fun _ _ _ h => h) (Or.inr ⟨by rfl, rfl⟩) ?_ ?_
      rotate_left
      · simp only [Act.put, List.setIfInBounds_toArray, List.set_cons_zero, List.set_cons_succ, i64_w, i32_w]
        rfl
      refine pure_ (i := 9) (N := some 16) (v := undef) (a' := ?_) #[true, true, true, true, true, true, true, true, true, true, false, false, false, false, false, false, false, false, false, false, false] rfl rfl (by kernel_rfl) (fun _ _ _ h => h) (Or.inr ⟨by rfl, rfl⟩) ?_ ?_
      rotate_left
      · simp only [Act.put, List.setIfInBounds_toArray, List.set_cons_zero, List.set_cons_succ, i64_w, i32_w]
        rfl
      refine pure_ (i := 10) (N := some 17) (v := undef) (a' := ?_) #[true, true, true, true, true, true, true, true, true, true, true, false, false, false, false, false, false, false, false, false, false] rfl rfl (by kernel_rfl) (fun _ _ _ h => h) (Or.inr ⟨by rfl, rfl⟩) ?_ ?_
      rotate_left
      · simp only [Act.put, List.setIfInBounds_toArray, List.set_cons_zero, List.set_cons_succ, i64_w, i32_w]
        rfl
      refine pure_ (i := 11) (N := some 18) (v := undef) (a' := ?_) #[true, true, true, true, true, true, true, true, true, true, true, true, false, false, false, false, false, false, false, false, false] rfl rfl (by kernel_rfl) (fun _ _ _ h => h) (Or.inr ⟨by rfl, rfl⟩) ?_ ?_
      rotate_left
      · simp only [Act.put, List.setIfInBounds_toArray, List.set_cons_zero, List.set_cons_succ, i64_w, i32_w]
        rfl
      refine pure_ (i := 12) (N := some 19) (v := undef) (a' := ?_) #[true, true, true, true, true, true, true, true, true, true, true, true, true, false, false, false, false, false, false, false, false] rfl rfl (by kernel_rfl) (fun _ _ _ h => h) (Or.inr ⟨by rfl, rfl⟩) ?_ ?_
      rotate_left
      · simp only [Act.put, List.setIfInBounds_toArray, List.set_cons_zero, List.set_cons_succ, i64_w, i32_w]
        rfl
      refine pure_ (i := 13) (N := some 20) (v := undef) (a' := ?_) #[true, true, true, true, true, true, true, true, true, true, true, true, true, true, false, false, false, false, false, false, false] rfl rfl (by kernel_rfl) (fun _ _ _ h => h) (Or.inr ⟨by rfl, rfl⟩) ?_ ?_
      rotate_left
      · simp only [Act.put, List.setIfInBounds_toArray, List.set_cons_zero, List.set_cons_succ, i64_w, i32_w]
        rfl
      refine pure_ (i := 14) (N := some 21) (v := undef) (a' := ?_) #[true, true, true, true, true, true, true, true, true, true, true, true, true, true, true, false, false, false, false, false, false] rfl rfl (by kernel_rfl) (fun _ _ _ h => h) (Or.inr ⟨by rfl, rfl⟩) ?_ ?_
      rotate_left
      · simp only [Act.put, List.setIfInBounds_toArray, List.set_cons_zero, List.set_cons_succ, i64_w, i32_w]
        rfl
      refine pure_ (i := 15) (N := some 22) (v := undef) (a' := ?_) #[true, true, true, true, true, true, true, true, true, true, true, true, true, true, true, true, false, false, false, false, false] rfl rfl (by kernel_rfl) (fun _ _ _ h => h) (Or.inr ⟨by rfl, rfl⟩) ?_ ?_
      rotate_left
      · simp only [Act.put, List.setIfInBounds_toArray, List.set_cons_zero, List.set_cons_succ, i64_w, i32_w]
        rfl
      refine pure_ (i := 16) (N := some 23) (v := undef) (a' := ?_) #[true, true, true, true, true, true, true, true, true, true, true, true, true, true, true, true, true, false, false, false, false] rfl rfl (by kernel_rfl) (fun _ _ _ h => h) (Or.inr ⟨by rfl, rfl⟩) ?_ ?_
      rotate_left
      · simp only [Act.put, List.setIfInBounds_toArray, List.set_cons_zero, List.set_cons_succ, i64_w, i32_w]
        rfl
      refine pure_ (i := 17) (N := some 24) (v := undef) (a' := ?_) #[true, true, true, true, true, true, true, true, true, true, true, true, true, true, true, true, true, true, false, false, false] rfl rfl (by kernel_rfl) (fun _ _ _ h => h) (Or.inr ⟨by rfl, rfl⟩) ?_ ?_
      rotate_left
      · simp only [Act.put, List.setIfInBounds_toArray, List.set_cons_zero, List.set_cons_succ, i64_w, i32_w]
        rfl
      refine pure_ (i := 18) (N := some 25) (v := undef) (a' := ?_) #[true, true, true, true, true, true, true, true, true, true, true, true, true, true, true, true, true, true, true, false, false] rfl rfl (by kernel_rfl) (fun _ _ _ h => h) (Or.inr ⟨by rfl, rfl⟩) ?_ ?_
      rotate_left
      · simp only [Act.put, List.setIfInBounds_toArray, List.set_cons_zero, List.set_cons_succ, i64_w, i32_w]
        rfl
      refine pure_ (i := 19) (N := some 26) (v := ?_) (a' := ?_) #[true, true, true, true, true, true, true, true, true, true, true, true, true, true, true, true, true, true, true, true, false] rfl rfl (by kernel_rfl) (fun _ _ _ h => h) (Or.inl ⟨by rfl, ?_⟩) ?_ ?_
      rotate_left
      · intro w'
        go_simp
        with_reducible rfl
      rotate_left
      · simp only [Act.put, List.setIfInBounds_toArray, List.set_cons_zero, List.set_cons_succ, i64_w, i32_w]
        rfl
      refine pure_ (i := 20) (N := some 4) (v := ?_) (a' := ?_) #[true, true, true, true, true, true, true, true, true, true, true, true, true, true, true, true, true, true, true, true, true] rfl rfl (by kernel_rfl) (fun _ _ _ h => h) (Or.inl ⟨by rfl, ?_⟩) ?_ ?_
      rotate_left
      · intro w'
        go_simp
        with_reducible rfl
      rotate_left
      · simp only [Act.put, List.setIfInBounds_toArray, List.set_cons_zero, List.set_cons_succ, i64_w, i32_w]
        rfl
      refine done_ (by kernel_rfl) ?_
      go_wp2
      go_ret
      exact ⟨rfl, HX4.out.bel⟩
    | false =>
      have hqq : (q == q) = true := by simp
      refine start_ (n := 21) (S := fun w' => w'.cell? ⟨w.heap.size, 0, none⟩ = some (.slice A0 a.cfg.ps.length cA0) ∧ w'.cell? ⟨w.heap.size, 1, none⟩ = some (.slice A1 a.cfg.xs.length cA1) ∧ w'.cell? ⟨w.heap.size, 2, none⟩ = some (.int .i64 a.cfg.l0) ∧ w'.cell? ⟨w.heap.size, 3, none⟩ = some (.slice A2 a.cfg.ws0.length cA2) ∧ w'.cell? ⟨w.heap.size, 4, none⟩ = some (.int .i64 a.cfg.l1) ∧ w'.cell? ⟨w.heap.size, 5, none⟩ = some (.slice A3 a.cfg.ws1.length cA3) ∧ w'.cell? ⟨w.heap.size, 6, none⟩ = some (.slice A4 a.streams.length cA4) ∧ w'.cell? ⟨w.heap.size, 7, none⟩ = some (.slice A5 a.acts.length cA5) ∧ w'.cell? ⟨w.heap.size + 1, 0, none⟩ = some (.slice B0 b.cfg.ps.length cB0) ∧ w'.cell? ⟨w.heap.size + 1, 1, none⟩ = some (.slice B1 b.cfg.xs.length cB1) ∧ w'.cell? ⟨w.heap.size + 1, 2, none⟩ = some (.int .i64 b.cfg.l0) ∧ w'.cell? ⟨w.heap.size + 1, 3, none⟩ = some (.slice B2 b.cfg.ws0.length cB2) ∧ w'.cell? ⟨w.heap.size + 1, 4, none⟩ = some (.int .i64 b.cfg.l1) ∧ w'.cell? ⟨w.heap.size + 1, 5, none⟩ = some (.slice B3 b.cfg.ws1.length cB3) ∧ w'.cell? ⟨w.heap.size + 1, 6, none⟩ = some (.slice B4 b.streams.length cB4) ∧ w'.cell? ⟨w.heap.size + 1, 7, none⟩ = some (.slice B5 b.acts.length cB5)) (ds := []) #[false, false, false, false, false, false, false, false, false, false, false, false, false, false, false, false, false, false, false, false, false] (by kernel_rfl) rfl rfl ⟨HP2.out.drew.a0, HP2.out.drew.a1, HP2.out.drew.a2, HP2.out.drew.a3, HP2.out.drew.a4, HP2.out.drew.a5, HP2.out.drew.a6, HP2.out.drew.a7, HP2.out.drew.b0, HP2.out.drew.b1, HP2.out.drew.b2, HP2.out.drew.b3, HP2.out.drew.b4, HP2.out.drew.b5, HP2.out.drew.b6, HP2.out.drew.b7⟩ (fun hHeld => ?_)
      refine take_ (i := 0) (N := some 7) (v := ?_) (a' := ?_) #[true, false, false, false, false, false, false, false, false, false, false, false, false, false, false, false, false, false, false, false, false] rfl rfl (by kernel_rfl) (fun _ _ _ h => h) (Or.inl ⟨by rfl, ?_⟩) hHeld ?_ ?_
      rotate_left
      · rintro w' ⟨s0, s1, s2, s3, s4, s5, s6, s7, s8, s9, s10, s11, s12, s13, s14, s15⟩
        go_simp
        with_reducible rfl
      rotate_left
      · simp only [Act.put, List.setIfInBounds_toArray, List.set_cons_zero, List.set_cons_succ, i64_w, i32_w]
        rfl
      refine one_ (i := 1) (N := some 8) #[true, true, false, false, false, false, false, false, false, false, false, false, false, false, false, false, false, false, false, false, false] rfl rfl (by kernel_rfl) (by decide) (fun K hK => ?_)
      refine goes_ Try.func23 (by kernel_rfl) rfl #[.agg #[.slice A0 a.cfg.ps.length cA0, .slice A1 a.cfg.xs.length cA1, .int .i64 a.cfg.l0, .slice A2 a.cfg.ws0.length cA2, .int .i64 a.cfg.l1, .slice A3 a.cfg.ws1.length cA3, .slice A4 a.streams.length cA4, .slice A5 a.acts.length cA5]] (by rfl) rfl rfl (by simp only [List.map_toArray, List.map_cons, List.map_nil]; rfl) ?_
      with_reducible refine (HGA.out _ HP2.out.drew.bel).mono ?_
      rintro e w3 ⟨rfl, hbw⟩
      refine ⟨_, rfl, ?_⟩
      have HX3 := Aside0.mk (HP2.out.drew.to hbw)
      clear hbw
      refine hK.out _ _ ⟨HX3.out.a0, HX3.out.a1, HX3.out.a2, HX3.out.a3, HX3.out.a4, HX3.out.a5, HX3.out.a6, HX3.out.a7, HX3.out.b0, HX3.out.b1, HX3.out.b2, HX3.out.b3, HX3.out.b4, HX3.out.b5, HX3.out.b6, HX3.out.b7⟩ (fun hHeld => ?_)
      clear hK K
      refine norm_ (a' := ?_) ?_ ?_
      rotate_left
      · show Act.put _ (some 8) _ = _
        simp only [Act.put, List.setIfInBounds_toArray, List.set_cons_zero, List.set_cons_succ, i64_w, i32_w]
        rfl
      refine pure_ (i := 2) (N := some 9) (v := ?_) (a' := ?_) #[true, true, true, false, false, false, false, false, false, false, false, false, false, false, false, false, false, false, false, false, false] rfl rfl (by kernel_rfl) (fun _ _ _ h => h) (Or.inl ⟨by rfl, ?_⟩) ?_ ?_
      rotate_left
      · intro w'
        go_simp
        with_reducible rfl
      rotate_left
      · simp only [Act.put, List.setIfInBounds_toArray, List.set_cons_zero, List.set_cons_succ, i64_w, i32_w]
        rfl
      refine take_ (i := 3) (N := some 10) (v := ?_) (a' := ?_) #[true, true, true, true, false, false, false, false, false, false, false, false, false, false, false, false, false, false, false, false, false] rfl rfl (by kernel_rfl) (fun _ _ _ h => h) (Or.inl ⟨by rfl, ?_⟩) hHeld ?_ ?_
      rotate_left
      · rintro w' ⟨s0, s1, s2, s3, s4, s5, s6, s7, s8, s9, s10, s11, s12, s13, s14, s15⟩
        go_simp
        with_reducible rfl
      rotate_left
      · simp only [Act.put, List.setIfInBounds_toArray, List.set_cons_zero, List.set_cons_succ, i64_w, i32_w]
        rfl
      refine one_ (i := 4) (N := some 11) #[true, true, true, true, true, false, false, false, false, false, false, false, false, false, false, false, false, false, false, false, false] rfl rfl (by kernel_rfl) (by decide) (fun K hK => ?_)
      refine goes_ Try.func23 (by kernel_rfl) rfl #[.agg #[.slice B0 b.cfg.ps.length cB0, .slice B1 b.cfg.xs.length cB1, .int .i64 b.cfg.l0, .slice B2 b.cfg.ws0.length cB2, .int .i64 b.cfg.l1, .slice B3 b.cfg.ws1.length cB3, .slice B4 b.streams.length cB4, .slice B5 b.acts.length cB5]] (by rfl) rfl rfl (by simp only [List.map_toArray, List.map_cons, List.map_nil]; rfl) ?_
      with_reducible refine (HGB.out _ HX3.out.bel).mono ?_
      rintro e w4 ⟨rfl, hbw⟩
      refine ⟨_, rfl, ?_⟩
      have HX4 := Aside0.mk (HX3.out.to hbw)
      clear hbw
      refine hK.out _ _ ⟨HX4.out.a0, HX4.out.a1, HX4.out.a2, HX4.out.a3, HX4.out.a4, HX4.out.a5, HX4.out.a6, HX4.out.a7, HX4.out.b0, HX4.out.b1, HX4.out.b2, HX4.out.b3, HX4.out.b4, HX4.out.b5, HX4.out.b6, HX4.out.b7⟩ (fun hHeld => ?_)
      clear hK K
      refine norm_ (a' := ?_) ?_ ?_
      rotate_left
      · show Act.put _ (some 11) _ = _
        simp only [Act.put, List.setIfInBounds_toArray, List.set_cons_zero, List.set_cons_succ, i64_w, i32_w]
        rfl
      refine pure_ (i := 5) (N := some 12) (v := ?_) (a' := ?_) #[true, true, true, true, true, true, false, false, false, false, false, false, false, false, false, false, false, false, false, false, false] rfl rfl (by kernel_rfl) (fun _ _ _ h => h) (Or.inl ⟨by rfl, ?_⟩) ?_ ?_
      rotate_left
      · intro w'
        go_simp
        with_reducible rfl
      rotate_left
      · simp only [Act.put, List.setIfInBounds_toArray, List.set_cons_zero, List.set_cons_succ, i64_w, i32_w]
        rfl
      refine pure_ (i := 6) (N := some 13) (v := ?_) (a' := ?_) #[true, true, true, true, true, true, true, false, false, false, false, false, false, false, false, false, false, false, false, false, false] rfl rfl (by kernel_rfl) (fun _ _ _ h => h) (Or.inl ⟨by rfl, ?_⟩) ?_ ?_
      rotate_left
      · intro w'
        go_simp
        with_reducible rfl
      rotate_left
      · simp only [Act.put, List.setIfInBounds_toArray, List.set_cons_zero, List.set_cons_succ, i64_w, i32_w]
        rfl
      refine take_ (i := 7) (N := some 14) (v := ?_) (a' := ?_) #[true, true, true, true, true, true, true, true, false, false, false, false, false, false, false, false, false, false, false, false, false] rfl rfl (by kernel_rfl) (fun _ _ _ h => h) (Or.inl ⟨by rfl, ?_⟩) hHeld ?_ ?_
      rotate_left
      · rintro w' ⟨s0, s1, s2, s3, s4, s5, s6, s7, s8, s9, s10, s11, s12, s13, s14, s15⟩
        go_simp
        with_reducible rfl
      rotate_left
      · simp only [Act.put, List.setIfInBounds_toArray, List.set_cons_zero, List.set_cons_succ, i64_w, i32_w]
        rfl
      refine take_ (i := 8) (N := some 15) (v := ?_) (a' := ?_) #[true, true, true, true, true, true, true, true, true, false, false, false, false, false, false, false, false, false, false, false, false] rfl rfl (by kernel_rfl) (fun _ _ _ h => h) (Or.inl ⟨by rfl, ?_⟩) hHeld ?_ ?_
      rotate_left
      · rintro w' ⟨s0, s1, s2, s3, s4, s5, s6, s7, s8, s9, s10, s11, s12, s13, s14, s15⟩
        go_simp
        with_reducible rfl
      rotate_left
      · simp only [Act.put, List.setIfInBounds_toArray, List.set_cons_zero, List.set_cons_succ, i64_w, i32_w]
        rfl
      refine take_ (i := 10) (N := some 17) (v := ?_) (a' := ?_) #[true, true, true, true, true, true, true, true, true, false, true, false, false, false, false, false, false, false, false, false, false] rfl rfl (by kernel_rfl) (fun _ _ _ h => h) (Or.inl ⟨by rfl, ?_⟩) hHeld ?_ ?_
      rotate_left
      · rintro w' ⟨s0, s1, s2, s3, s4, s5, s6, s7, s8, s9, s10, s11, s12, s13, s14, s15⟩
        go_simp
        with_reducible rfl
      rotate_left
      · simp only [Act.put, List.setIfInBounds_toArray, List.set_cons_zero, List.set_cons_succ, i64_w, i32_w]
        rfl
      refine take_ (i := 11) (N := some 18) (v := ?_) (a' := ?_) #[true, true, true, true, true, true, true, true, true, false, true, true, false, false, false, false, false, false, false, false, false] rfl rfl (by kernel_rfl) (fun _ _ _ h => h) (Or.inl ⟨by rfl, ?_⟩) hHeld ?_ ?_
      rotate_left
      · rintro w' ⟨s0, s1, s2, s3, s4, s5, s6, s7, s8, s9, s10, s11, s12, s13, s14, s15⟩
        go_simp
        with_reducible rfl
      rotate_left
      · simp only [Act.put, List.setIfInBounds_toArray, List.set_cons_zero, List.set_cons_succ, i64_w, i32_w]
        rfl
      refine one_ (i := 9) (N := some 16) #[true, true, true, true, true, true, true, true, true, true, true, true, false, false, false, false, false, false, false, false, false] rfl rfl (by kernel_rfl) (by decide) (fun K hK => ?_)
      refine goes_ Try.func29 (by kernel_rfl) rfl #[.agg #[.slice A0 a.cfg.ps.length cA0, .slice A1 a.cfg.xs.length cA1, .int .i64 a.cfg.l0, .slice A2 a.cfg.ws0.length cA2, .int .i64 a.cfg.l1, .slice A3 a.cfg.ws1.length cA3, .slice A4 a.streams.length cA4, .slice A5 a.acts.length cA5], .agg #[.slice B0 b.cfg.ps.length cB0, .slice B1 b.cfg.xs.length cB1, .int .i64 b.cfg.l0, .slice B2 b.cfg.ws0.length cB2, .int .i64 b.cfg.l1, .slice B3 b.cfg.ws1.length cB3, .slice B4 b.streams.length cB4, .slice B5 b.acts.length cB5]] (by rfl) rfl rfl (by simp only [List.map_toArray, List.map_cons, List.map_nil]; rfl) ?_
      with_reducible refine (HPS.out _ HX4.out.bel).mono ?_
      rintro e w5 ⟨rfl, hbw⟩
      refine ⟨_, rfl, ?_⟩
      have HX5 := Aside0.mk (HX4.out.to hbw)
      clear hbw
      refine hK.out _ _ ⟨HX5.out.a0, HX5.out.a1, HX5.out.a2, HX5.out.a3, HX5.out.a4, HX5.out.a5, HX5.out.a6, HX5.out.a7, HX5.out.b0, HX5.out.b1, HX5.out.b2, HX5.out.b3, HX5.out.b4, HX5.out.b5, HX5.out.b6, HX5.out.b7⟩ (fun hHeld => ?_)
      clear hK K
      refine norm_ (a' := ?_) ?_ ?_
      rotate_left
      · show Act.put _ (some 16) _ = _
        simp only [Act.put, List.setIfInBounds_toArray, List.set_cons_zero, List.set_cons_succ, i64_w, i32_w]
        rfl
      refine one_ (i := 12) (N := some 19) #[true, true, true, true, true, true, true, true, true, true, true, true, true, false, false, false, false, false, false, false, false] rfl rfl (by kernel_rfl) (by decide) (fun K hK => ?_)
      refine goes_ Try.func28 (by kernel_rfl) rfl #[.agg #[.slice A0 a.cfg.ps.length cA0, .slice A1 a.cfg.xs.length cA1, .int .i64 a.cfg.l0, .slice A2 a.cfg.ws0.length cA2, .int .i64 a.cfg.l1, .slice A3 a.cfg.ws1.length cA3, .slice A4 a.streams.length cA4, .slice A5 a.acts.length cA5], .agg #[.slice B0 b.cfg.ps.length cB0, .slice B1 b.cfg.xs.length cB1, .int .i64 b.cfg.l0, .slice B2 b.cfg.ws0.length cB2, .int .i64 b.cfg.l1, .slice B3 b.cfg.ws1.length cB3, .slice B4 b.streams.length cB4, .slice B5 b.acts.length cB5]] (by rfl) rfl rfl (by simp only [List.map_toArray, List.map_cons, List.map_nil]; rfl) ?_
      with_reducible refine (HRS.out _ HX5.out.bel).mono ?_
      rintro e w6 ⟨rfl, hbw⟩
      refine ⟨_, rfl, ?_⟩
      have HX6 := Aside0.mk (HX5.out.to hbw)
      clear hbw
      refine hK.out _ _ ⟨HX6.out.a0, HX6.out.a1, HX6.out.a2, HX6.out.a3, HX6.out.a4, HX6.out.a5, HX6.out.a6, HX6.out.a7, HX6.out.b0, HX6.out.b1, HX6.out.b2, HX6.out.b3, HX6.out.b4, HX6.out.b5, HX6.out.b6, HX6.out.b7⟩ (fun hHeld => ?_)
      clear hK K
      refine norm_ (a' := ?_) ?_ ?_
      rotate_left
      · show Act.put _ (some 19) _ = _
        simp only [Act.put, List.setIfInBounds_toArray, List.set_cons_zero, List.set_cons_succ, i64_w, i32_w]
        rfl
      refine pure_ (i := 13) (N := some 20) (v := ?_) (a' := ?_) #[true, true, true, true, true, true, true, true, true, true, true, true, true, true, false, false, false, false, false, false, false] rfl rfl (by kernel_rfl) (fun _ _ _ h => h) (Or.inl ⟨by rfl, ?_⟩) ?_ ?_
      rotate_left
      · intro w'
        go_simp
        with_reducible rfl
      rotate_left
      · simp only [Act.put, List.setIfInBounds_toArray, List.set_cons_zero, List.set_cons_succ, i64_w, i32_w]
        rfl
      refine pure_ (i := 14) (N := some 21) (v := ?_) (a' := ?_) #[true, true, true, true, true, true, true, true, true, true, true, true, true, true, true, false, false, false, false, false, false] rfl rfl (by kernel_rfl) (fun _ _ _ h => h) (Or.inl ⟨by rfl, ?_⟩) ?_ ?_
      rotate_left
      · intro w'
        go_simp
        with_reducible rfl
      rotate_left
      · simp only [Act.put, List.setIfInBounds_toArray, List.set_cons_zero, List.set_cons_succ, i64_w, i32_w]
        rfl
      refine take_ (i := 15) (N := some 22) (v := ?_) (a' := ?_) #[true, true, true, true, true, true, true, true, true, true, true, true, true, true, true, true, false, false, false, false, false] rfl rfl (by kernel_rfl) (fun _ _ _ h => h) (Or.inl ⟨by rfl, ?_⟩) hHeld ?_ ?_
      rotate_left
      · rintro w' ⟨s0, s1, s2, s3, s4, s5, s6, s7, s8, s9, s10, s11, s12, s13, s14, s15⟩
        go_simp
        with_reducible rfl
      rotate_left
      · simp only [Act.put, List.setIfInBounds_toArray, List.set_cons_zero, List.set_cons_succ, i64_w, i32_w]
        rfl
      refine take_ (i := 16) (N := some 23) (v := ?_) (a' := ?_) #[true, true, true, true, true, true, true, true, true, true, true, true, true, true, true, true, true, false, false, false, false] rfl rfl (by kernel_rfl) (fun _ _ _ h => h) (Or.inl ⟨by rfl, ?_⟩) hHeld ?_ ?_
      rotate_left
      · rintro w' ⟨s0, s1, s2, s3, s4, s5, s6, s7, s8, s9, s10, s11, s12, s13, s14, s15⟩
        go_simp
        with_reducible rfl
      rotate_left
      · simp only [Act.put, List.setIfInBounds_toArray, List.set_cons_zero, List.set_cons_succ, i64_w, i32_w]
        rfl
      refine one_ (i := 17) (N := some 24) #[true, true, true, true, true, true, true, true, true, true, true, true, true, true, true, true, true, true, false, false, false] rfl rfl (by kernel_rfl) (by decide) (fun K hK => ?_)
      refine goes_ Try.func29 (by kernel_rfl) rfl #[.agg #[.slice A0 a.cfg.ps.length cA0, .slice A1 a.cfg.xs.length cA1, .int .i64 a.cfg.l0, .slice A2 a.cfg.ws0.length cA2, .int .i64 a.cfg.l1, .slice A3 a.cfg.ws1.length cA3, .slice A4 a.streams.length cA4, .slice A5 a.acts.length cA5], .agg #[.slice A0 a.cfg.ps.length cA0, .slice A1 a.cfg.xs.length cA1, .int .i64 a.cfg.l0, .slice A2 a.cfg.ws0.length cA2, .int .i64 a.cfg.l1, .slice A3 a.cfg.ws1.length cA3, .slice A4 a.streams.length cA4, .slice A5 a.acts.length cA5]] (by rfl) rfl rfl (by simp only [List.map_toArray, List.map_cons, List.map_nil]; rfl) ?_
      with_reducible refine (HAA.out _ HX6.out.bel).mono ?_
      rintro e w7 ⟨rfl, hbw⟩
      refine ⟨_, rfl, ?_⟩
      have HX7 := Aside0.mk (HX6.out.to hbw)
      clear hbw
      refine hK.out _ _ ⟨HX7.out.a0, HX7.out.a1, HX7.out.a2, HX7.out.a3, HX7.out.a4, HX7.out.a5, HX7.out.a6, HX7.out.a7, HX7.out.b0, HX7.out.b1, HX7.out.b2, HX7.out.b3, HX7.out.b4, HX7.out.b5, HX7.out.b6, HX7.out.b7⟩ (fun hHeld => ?_)
      clear hK K
      refine norm_ (a' := ?_) ?_ ?_
      rotate_left
      · show Act.put _ (some 24) _ = _
        simp only [Act.put, List.setIfInBounds_toArray, List.set_cons_zero, List.set_cons_succ, i64_w, i32_w]
        rfl
      refine pure_ (i := 18) (N := some 25) (v := ?_) (a' := ?_) #[true, true, true, true, true, true, true, true, true, true, true, true, true, true, true, true, true, true, true, false, false] rfl rfl (by kernel_rfl) (fun _ _ _ h => h) (Or.inl ⟨by rfl, ?_⟩) ?_ ?_
      rotate_left
      · intro w'
        go_simp
        with_reducible rfl
      rotate_left
      · simp only [Act.put, List.setIfInBounds_toArray, List.set_cons_zero, List.set_cons_succ, i64_w, i32_w]
        rfl
      refine pure_ (i := 19) (N := some 26) (v := ?_) (a' := ?_) #[true, true, true, true, true, true, true, true, true, true, true, true, true, true, true, true, true, true, true, true, false] rfl rfl (by kernel_rfl) (fun _ _ _ h => h) (Or.inl ⟨by rfl, ?_⟩) ?_ ?_
      rotate_left
      · intro w'
        go_simp
        with_reducible rfl
      rotate_left
      · simp only [Act.put, List.setIfInBounds_toArray, List.set_cons_zero, List.set_cons_succ, i64_w, i32_w]
        rfl
      refine pure_ (i := 20) (N := some 4) (v := ?_) (a' := ?_) #[true, true, true, true, true, true, true, true, true, true, true, true, true, true, true, true, true, true, true, true, true] rfl rfl (by kernel_rfl) (fun _ _ _ h => h) (Or.inl ⟨by rfl, ?_⟩) ?_ ?_
      rotate_left
      · intro w'
        go_simp
        with_reducible rfl
      rotate_left
      · simp only [Act.put, List.setIfInBounds_toArray, List.set_cons_zero, List.set_cons_succ, i64_w, i32_w]
        rfl
      refine done_ (by kernel_rfl) ?_
      go_wp2
      go_ret
      exact ⟨rfl, HX7.out.bel⟩
theorem ScriptSame_walk (W : World) (csa : Array Value) (x : JT) (hK : kJob.K W x (Value.agg csa).cells.toList) (hV : VJ x) (csb : Array Value) (y : JT) (hK' : kJob.K W y (Value.agg csb).cells.toList) (hV' : VJ y) :
    Calls Try.prog 12 #[.agg csa, .agg csb] W fun e w' => e = .returned (.bool true) ∧ Below W.heap.size W w' := by
  obtain ⟨A0, c0, A1, c1, A2, c2, A3, c3, A4, c4, A5, c5, rfl, h⟩ := isJob_of hK
  obtain ⟨B0, d0, B1, d1, B2, d2, B3, d3, B4, d4, B5, d5, rfl, h'⟩ := isJob_of hK'
  obtain ⟨l1, _, l3, l4⟩ := lens_of hV
  obtain ⟨m1, _, m3, m4⟩ := lens_of hV'
  exact ScriptSame_go h h' ⟨l1, l3, l4⟩ ⟨m1, m3, m4⟩
end Go.Proofs.Ytbpmmabdjabfcaa.Script
