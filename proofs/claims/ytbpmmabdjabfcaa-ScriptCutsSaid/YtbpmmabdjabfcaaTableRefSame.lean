import Derived.Test.YtbpmmabdjabfcaaTableSame
import Derived.Test.YtbpmmabdjabfcaaPTx2
import Derived.Test.YtbpmmabdjabfcaaPTx3
import Derived.Deep.QuietTactic
import Derived.BigQuiet
/- Package portholeref06: Same answers whether two configurations are the same. Written by wip/tablerefsame.py. -/
namespace Go.Proofs.Ytbpmmabdjabfcaa.Table
open Go.RowKit Go.Proofs.YtbpmmabdjabfcaaW.PrintWords Go.Proofs.YtbpmmabdjabfcaaW.PrintLast Go.Proofs.YtbpmmabdjabfcaaW.PrintMore Go.Proofs.Ytbpmmabdjabfcaa.Box Go.Proofs.Ytbpmmabdjabfcaa.PT
set_option linter.unusedSimpArgs false
set_option linter.unusedVariables false
theorem eqS64 (x y : S64) (r : Bool) (hr : decide (x = y) = r) (d : Nat) (w : World) : (Op.equalIn (d + 2) 64 (.agg #[.int .i64 x.f0, .int .i64 x.f1]) (.agg #[.int .i64 y.f0, .int .i64 y.f1])).run Try.prog w = .ok r w := by
  rw [eqA64, ← hr]
  congr 1
  have h := ne64 x y
  rw [Bool.eq_iff_iff] at h ⊢
  simp only [Bool.and_eq_true, Bool.or_eq_true, Bool.not_eq_true', beq_eq_false_iff_ne, beq_iff_eq, decide_eq_true_iff, decide_eq_false_iff_not] at h ⊢
  constructor
  · intro hh; exact Classical.byContradiction fun hn => by have := h.2 hn; simp_all
  · intro hh; subst hh; simp
theorem take_succ64 (p q : List S64) {x : Int} (h0 : 0 ≤ x) (h1 : x < p.length) (h2 : x < q.length) (ht : p.take x.toNat = q.take x.toNat) (he : rd_T64 p x = rd_T64 q x) : p.take (x + 1).toNat = q.take (x + 1).toNat := by
  rw [show (x + 1).toNat = x.toNat + 1 by omega, List.take_add_one, List.take_add_one, ht]
  congr 1
  unfold rd_T64 at he
  rw [List.getD_eq_getElem?_getD, List.getD_eq_getElem?_getD, List.getElem?_eq_getElem (by omega), List.getElem?_eq_getElem (by omega)] at he
  rw [List.getElem?_eq_getElem (by omega), List.getElem?_eq_getElem (by omega)]
  simp only [Option.getD_some] at he
  rw [he]
theorem take_all64 {p q : List S64} {n : Nat} (h1 : p.length = n) (h2 : q.length = n) (ht : p.take (n : Int).toNat = q.take (n : Int).toNat) : p = q := by
  rw [List.take_of_length_le (by omega), List.take_of_length_le (by omega)] at ht
  exact ht
theorem eqS68 (x y : S68) (r : Bool) (hr : decide (x = y) = r) (d : Nat) (w : World) : (Op.equalIn (d + 2) 68 (.agg #[.int .i64 x.f0, .int .i64 x.f1, .int .i64 x.f2, .int .i64 x.f3, .int .i64 x.f4, .int .i64 x.f5, .int .u32 x.f6]) (.agg #[.int .i64 y.f0, .int .i64 y.f1, .int .i64 y.f2, .int .i64 y.f3, .int .i64 y.f4, .int .i64 y.f5, .int .u32 y.f6])).run Try.prog w = .ok r w := by
  rw [eqA68, ← hr]
  congr 1
  have h := ne68 x y
  rw [Bool.eq_iff_iff] at h ⊢
  simp only [Bool.and_eq_true, Bool.or_eq_true, Bool.not_eq_true', beq_eq_false_iff_ne, beq_iff_eq, decide_eq_true_iff, decide_eq_false_iff_not] at h ⊢
  constructor
  · intro hh; exact Classical.byContradiction fun hn => by have := h.2 hn; simp_all
  · intro hh; subst hh; simp
theorem take_succ68 (p q : List S68) {x : Int} (h0 : 0 ≤ x) (h1 : x < p.length) (h2 : x < q.length) (ht : p.take x.toNat = q.take x.toNat) (he : rd_T68 p x = rd_T68 q x) : p.take (x + 1).toNat = q.take (x + 1).toNat := by
  rw [show (x + 1).toNat = x.toNat + 1 by omega, List.take_add_one, List.take_add_one, ht]
  congr 1
  unfold rd_T68 at he
  rw [List.getD_eq_getElem?_getD, List.getD_eq_getElem?_getD, List.getElem?_eq_getElem (by omega), List.getElem?_eq_getElem (by omega)] at he
  rw [List.getElem?_eq_getElem (by omega), List.getElem?_eq_getElem (by omega)]
  simp only [Option.getD_some] at he
  rw [he]
theorem take_all68 {p q : List S68} {n : Nat} (h1 : p.length = n) (h2 : q.length = n) (ht : p.take (n : Int).toNat = q.take (n : Int).toNat) : p = q := by
  rw [List.take_of_length_le (by omega), List.take_of_length_le (by omega)] at ht
  exact ht
theorem eqS72 (x y : S72) (r : Bool) (hr : decide (x = y) = r) (d : Nat) (w : World) : (Op.equalIn (d + 2) 72 (.agg #[.int .i64 x.f0, .int .i64 x.f1, .int .i64 x.f2]) (.agg #[.int .i64 y.f0, .int .i64 y.f1, .int .i64 y.f2])).run Try.prog w = .ok r w := by
  rw [eqA72, ← hr]
  congr 1
  have h := ne72 x y
  rw [Bool.eq_iff_iff] at h ⊢
  simp only [Bool.and_eq_true, Bool.or_eq_true, Bool.not_eq_true', beq_eq_false_iff_ne, beq_iff_eq, decide_eq_true_iff, decide_eq_false_iff_not] at h ⊢
  constructor
  · intro hh; exact Classical.byContradiction fun hn => by have := h.2 hn; simp_all
  · intro hh; subst hh; simp
theorem take_succ72 (p q : List S72) {x : Int} (h0 : 0 ≤ x) (h1 : x < p.length) (h2 : x < q.length) (ht : p.take x.toNat = q.take x.toNat) (he : rd_T72 p x = rd_T72 q x) : p.take (x + 1).toNat = q.take (x + 1).toNat := by
  rw [show (x + 1).toNat = x.toNat + 1 by omega, List.take_add_one, List.take_add_one, ht]
  congr 1
  unfold rd_T72 at he
  rw [List.getD_eq_getElem?_getD, List.getD_eq_getElem?_getD, List.getElem?_eq_getElem (by omega), List.getElem?_eq_getElem (by omega)] at he
  rw [List.getElem?_eq_getElem (by omega), List.getElem?_eq_getElem (by omega)]
  simp only [Option.getD_some] at he
  rw [he]
theorem take_all72 {p q : List S72} {n : Nat} (h1 : p.length = n) (h2 : q.length = n) (ht : p.take (n : Int).toNat = q.take (n : Int).toNat) : p = q := by
  rw [List.take_of_length_le (by omega), List.take_of_length_le (by omega)] at ht
  exact ht
set_option maxRecDepth 20000 in
set_option maxHeartbeats 4000000 in
theorem refsame_calls {w : World} {a b : Cfg} {csa csb : Array Value} (ha : IsCfg w a csa) (hb : IsCfg w b csb) (hs : Short a) :
    Calls Try.prog 16 #[.agg csa, .agg csb] w fun e w' => e = .returned (.bool (decide (a = b))) ∧ Below w.heap.size w w' := by
  obtain ⟨A0, c0, A1, c1, A2, c2, A3, c3, rfl, hla, ra0, ra1, ra2, ra3⟩ := ha
  obtain ⟨B0, d0, B1, d1, B2, d2, B3, d3, rfl, hlb, rb0, rb1, rb2, rb3⟩ := hb
  have HP := Aside0.mk (SP.start w (.slice A0 a.ps.length c0) (.slice A1 a.xs.length c1) (.int .i64 a.l0) (.slice A2 a.ws0.length c2) (.int .i64 a.l1) (.slice A3 a.ws1.length c3) (.slice B0 b.ps.length d0) (.slice B1 b.xs.length d1) (.int .i64 b.l0) (.slice B2 b.ws0.length d2) (.int .i64 b.l1) (.slice B3 b.ws1.length d3))
  obtain ⟨r, hr⟩ : ∃ r, decide (a = b) = r := ⟨_, rfl⟩
  rw [hr]
  have hr' : r = decide ((a.l0 = b.l0 ∧ a.l1 = b.l1) ∧ a.ps = b.ps ∧ a.xs = b.xs ∧ a.ws0 = b.ws0 ∧ a.ws1 = b.ws1) := by rw [← hr, decide_eq_decide]; exact dec_cfg a b
  have hs0 := hs.1
  have hs1 := hs.2.1
  have hs2 := hs.2.2.1
  have hs3 := hs.2.2.2
  clear hr hs hla hlb
  generalize a.ps = x0 at *
  generalize a.xs = x1 at *
  generalize a.ws0 = x2 at *
  generalize a.ws1 = x3 at *
  generalize a.l0 = l0 at *
  generalize a.l1 = l1 at *
  generalize b.ps = x0' at *
  generalize b.xs = x1' at *
  generalize b.ws0 = x2' at *
  generalize b.ws1 = x3' at *
  generalize b.l0 = k0 at *
  generalize b.l1 = k1 at *
  have HR := Aside0.mk hr'
  clear hr'
  obtain ⟨n0, hn0⟩ : ∃ n, x0.length = n := ⟨_, rfl⟩
  obtain ⟨n1, hn1⟩ : ∃ n, x1.length = n := ⟨_, rfl⟩
  obtain ⟨n2, hn2⟩ : ∃ n, x2.length = n := ⟨_, rfl⟩
  obtain ⟨n3, hn3⟩ : ∃ n, x3.length = n := ⟨_, rfl⟩
  obtain ⟨m0, hm0⟩ : ∃ n, x0'.length = n := ⟨_, rfl⟩
  obtain ⟨m1, hm1⟩ : ∃ n, x1'.length = n := ⟨_, rfl⟩
  obtain ⟨m2, hm2⟩ : ∃ n, x2'.length = n := ⟨_, rfl⟩
  obtain ⟨m3, hm3⟩ : ∃ n, x3'.length = n := ⟨_, rfl⟩
  rw [hn0, hn1, hn2, hn3, hm0, hm1, hm2, hm3] at HP ⊢
  rw [hn0] at ra0 hs0
  rw [hn1] at ra1 hs1
  rw [hn2] at ra2 hs2
  rw [hn3] at ra3 hs3
  rw [hm0] at rb0
  rw [hm1] at rb1
  rw [hm2] at rb2
  rw [hm3] at rb3
  have HN0 := Aside0.mk (And.intro hn0 hm0)
  have HN1 := Aside0.mk (And.intro hn1 hm1)
  have HN2 := Aside0.mk (And.intro hn2 hm2)
  have HN3 := Aside0.mk (And.intro hn3 hm3)
  have HC0 := Aside0.mk (And.intro ra0 rb0)
  have HC1 := Aside0.mk (And.intro ra1 rb1)
  have HC2 := Aside0.mk (And.intro ra2 rb2)
  have HC3 := Aside0.mk (And.intro ra3 rb3)
  clear hn0 hn1 hn2 hn3 hm0 hm1 hm2 hm3 ra0 ra1 ra2 ra3 rb0 rb1 rb2 rb3
  by_cases g0 : n0 = m0
  · subst g0
    have q0 : ((n0 : Int) != (n0 : Int)) = false := by simp
    by_cases g1 : n1 = m1
    · subst g1
      have q1 : ((n1 : Int) != (n1 : Int)) = false := by simp
      go_enter Try.func16, Try.ntmps16
      go_wp2_with fail
      generalize (w.alloc (.cells #[.slice A0 n0 c0, .slice A1 n1 c1, .int .i64 l0, .slice A2 n2 c2, .int .i64 l1, .slice A3 n3 c3] 31)).alloc (.cells #[.slice B0 n0 d0, .slice B1 n1 d1, .int .i64 k0, .slice B2 m2 d2, .int .i64 k1, .slice B3 m3 d3] 31) = w1 at *
      go_loopw [5] (fun v wr => ∃ x : Int, 0 ≤ x ∧ x ≤ n0 ∧ v = .int .i64 x ∧ Aside0 (x0.take x.toNat = x0'.take x.toNat) ∧ Aside0 (SP w wr (.slice A0 n0 c0) (.slice A1 n1 c1) (.int .i64 l0) (.slice A2 n2 c2) (.int .i64 l1) (.slice A3 n3 c3) (.slice B0 n0 d0) (.slice B1 n1 d1) (.int .i64 k0) (.slice B2 m2 d2) (.int .i64 k1) (.slice B3 m3 d3))) (fun v _ => n0 - (intOf v).toNat)
      case atStart => exact ⟨0, by omega, by omega, rfl, ⟨rfl⟩, HP⟩
      case round =>
        obtain ⟨x, hx0, hx1, rfl, HT, HX⟩ := hrel
        have ha0 := HX.out.a0
        have ha1 := HX.out.a1
        have ha2 := HX.out.a2
        have ha3 := HX.out.a3
        have ha4 := HX.out.a4
        have ha5 := HX.out.a5
        have hb0 := HX.out.b0
        have hb1 := HX.out.b1
        have hb2 := HX.out.b2
        have hb3 := HX.out.b3
        have hb4 := HX.out.b4
        have hb5 := HX.out.b5
        by_cases hlt : x < n0
        · have hd : decide (x < (n0 : Int)) = true := decide_eq_true hlt
          obtain ⟨ad, e1, he0, he1⟩ := at_T64 HC0.out.1 x hx0 hlt
          cases e1
          obtain ⟨bd, e2, hg0, hg1⟩ := at_T64 HC0.out.2 x hx0 hlt
          cases e2
          replace he0 := pw_cell_below HX.out.bel he0
          replace hg0 := pw_cell_below HX.out.bel hg0
          replace he1 := pw_cell_below HX.out.bel he1
          replace hg1 := pw_cell_below HX.out.bel hg1
          have hsn := take_succ64 x0 x0' (x := x) hx0 (by rw [HN0.out.1]; exact hlt) (by rw [HN0.out.2]; exact hlt) HT.out
          have HSN := Aside0.mk hsn
          clear hsn
          have HNE : Aside0 (rd_T64 x0 x ≠ rd_T64 x0' x → r = false) := ⟨fun h => by rw [HR.out]; exact decide_eq_false (fun e => h (by rw [e.2.1]))⟩
          generalize rd_T64 x0 x = y at *
          generalize rd_T64 x0' x = y' at *
          have p0 := eq_true hx0
          have p1 := eq_true hlt
          by_cases hy : y = y'
          · have he := eqS64 y y' true (decide_eq_true hy)
            have HY := Aside0.mk (HSN.out hy)
            clear hy
            go_wp2_with fail
            go_quiet (fail)
            have HX2 := Aside0.mk (HX.out.drewN nq)
            go_wp2
            go_roundw
            case rel => exact ⟨x + 1, by omega, by omega, by go_num, HY, HX2⟩
            case measure => simp [intOf]; omega
          · have he := eqS64 y y' false (decide_eq_false hy)
            have HY := Aside0.mk (HNE.out hy)
            clear hy
            go_wp2_with fail
            go_quiet (fail)
            have HX2 := Aside0.mk (HX.out.drewN nq)
            go_wp2
            go_ret
            exact ⟨by rw [HY.out]; rfl, HX2.out.bel⟩
        · obtain rfl : x = (n0 : Int) := by omega
          have hd : decide ((n0 : Int) < (n0 : Int)) = false := decide_eq_false (by omega)
          have HA0 := Aside0.mk (take_all64 HN0.out.1 HN0.out.2 HT.out)
          clear HT hx0 hx1 hlt
          go_wp2_with fail
          clear hd
          clear ha0 hb0 ha1 hb1 ha2 hb2 ha3 hb3 ha4 hb4 ha5 hb5
          have HX0 := HX
          clear HX
          go_loopw [6] (fun v wr => ∃ x : Int, 0 ≤ x ∧ x ≤ n1 ∧ v = .int .i64 x ∧ Aside0 (x1.take x.toNat = x1'.take x.toNat) ∧ Aside0 (SP w wr (.slice A0 n0 c0) (.slice A1 n1 c1) (.int .i64 l0) (.slice A2 n2 c2) (.int .i64 l1) (.slice A3 n3 c3) (.slice B0 n0 d0) (.slice B1 n1 d1) (.int .i64 k0) (.slice B2 m2 d2) (.int .i64 k1) (.slice B3 m3 d3))) (fun v _ => n1 - (intOf v).toNat)
          case atStart => exact ⟨0, by omega, by omega, rfl, ⟨rfl⟩, HX0⟩
          case round =>
            obtain ⟨x, hx0, hx1, rfl, HT, HX⟩ := hrel
            have ha0 := HX.out.a0
            have ha1 := HX.out.a1
            have ha2 := HX.out.a2
            have ha3 := HX.out.a3
            have ha4 := HX.out.a4
            have ha5 := HX.out.a5
            have hb0 := HX.out.b0
            have hb1 := HX.out.b1
            have hb2 := HX.out.b2
            have hb3 := HX.out.b3
            have hb4 := HX.out.b4
            have hb5 := HX.out.b5
            by_cases hlt : x < n1
            · have hd : decide (x < (n1 : Int)) = true := decide_eq_true hlt
              obtain ⟨ad, e1, he0, he1, he2, he3, he4, he5, he6⟩ := at_T68 HC1.out.1 x hx0 hlt
              cases e1
              obtain ⟨bd, e2, hg0, hg1, hg2, hg3, hg4, hg5, hg6⟩ := at_T68 HC1.out.2 x hx0 hlt
              cases e2
              replace he0 := pw_cell_below HX.out.bel he0
              replace hg0 := pw_cell_below HX.out.bel hg0
              replace he1 := pw_cell_below HX.out.bel he1
              replace hg1 := pw_cell_below HX.out.bel hg1
              replace he2 := pw_cell_below HX.out.bel he2
              replace hg2 := pw_cell_below HX.out.bel hg2
              replace he3 := pw_cell_below HX.out.bel he3
              replace hg3 := pw_cell_below HX.out.bel hg3
              replace he4 := pw_cell_below HX.out.bel he4
              replace hg4 := pw_cell_below HX.out.bel hg4
              replace he5 := pw_cell_below HX.out.bel he5
              replace hg5 := pw_cell_below HX.out.bel hg5
              replace he6 := pw_cell_below HX.out.bel he6
              replace hg6 := pw_cell_below HX.out.bel hg6
              have hsn := take_succ68 x1 x1' (x := x) hx0 (by rw [HN1.out.1]; exact hlt) (by rw [HN1.out.2]; exact hlt) HT.out
              have HSN := Aside0.mk hsn
              clear hsn
              have HNE : Aside0 (rd_T68 x1 x ≠ rd_T68 x1' x → r = false) := ⟨fun h => by rw [HR.out]; exact decide_eq_false (fun e => h (by rw [e.2.2.1]))⟩
              generalize rd_T68 x1 x = y at *
              generalize rd_T68 x1' x = y' at *
              have p0 := eq_true hx0
              have p1 := eq_true hlt
              by_cases hy : y = y'
              · have he := eqS68 y y' true (decide_eq_true hy)
                have HY := Aside0.mk (HSN.out hy)
                clear hy
                go_wp2_with fail
                go_quiet (fail)
                have HX2 := Aside0.mk (HX.out.drewN nq)
                go_wp2
                go_roundw
                case rel => exact ⟨x + 1, by omega, by omega, by go_num, HY, HX2⟩
                case measure => simp [intOf]; omega
              · have he := eqS68 y y' false (decide_eq_false hy)
                have HY := Aside0.mk (HNE.out hy)
                clear hy
                go_wp2_with fail
                go_quiet (fail)
                have HX2 := Aside0.mk (HX.out.drewN nq)
                go_wp2
                go_ret
                exact ⟨by rw [HY.out]; rfl, HX2.out.bel⟩
            · obtain rfl : x = (n1 : Int) := by omega
              have hd : decide ((n1 : Int) < (n1 : Int)) = false := decide_eq_false (by omega)
              have HA1 := Aside0.mk (take_all68 HN1.out.1 HN1.out.2 HT.out)
              clear HT hx0 hx1 hlt
              go_wp2_with fail
              clear hd
              clear ha0 hb0 ha1 hb1 ha2 hb2 ha3 hb3 ha4 hb4 ha5 hb5
              have HX0 := HX
              clear HX
              go_loopw [7] (fun v wr => ∃ i : Nat, i ≤ 2 ∧ v = .int .i64 i ∧ Aside0 ((1 ≤ i → l0 = k0 ∧ x2 = x2') ∧ (2 ≤ i → l1 = k1 ∧ x3 = x3')) ∧ Aside0 (SP w wr (.slice A0 n0 c0) (.slice A1 n1 c1) (.int .i64 l0) (.slice A2 n2 c2) (.int .i64 l1) (.slice A3 n3 c3) (.slice B0 n0 d0) (.slice B1 n1 d1) (.int .i64 k0) (.slice B2 m2 d2) (.int .i64 k1) (.slice B3 m3 d3))) (fun v _ => 2 - (intOf v).toNat)
              case atStart => exact ⟨0, by omega, rfl, ⟨fun h => absurd h (by decide), fun h => absurd h (by decide)⟩, HX0⟩
              case round =>
                obtain ⟨i, hi, rfl, HZ, HX⟩ := hrel
                match i, hi with
                | 0, _ =>
                  have ha0 := HX.out.a0
                  have ha1 := HX.out.a1
                  have ha2 := HX.out.a2
                  have ha3 := HX.out.a3
                  have ha4 := HX.out.a4
                  have ha5 := HX.out.a5
                  have hb0 := HX.out.b0
                  have hb1 := HX.out.b1
                  have hb2 := HX.out.b2
                  have hb3 := HX.out.b3
                  have hb4 := HX.out.b4
                  have hb5 := HX.out.b5
                  by_cases gl : l0 = k0
                  · subst gl
                    have ql : (l0 != l0) = false := by simp
                    by_cases gn : n2 = m2
                    · subst gn
                      have qn : ((n2 : Int) != (n2 : Int)) = false := by simp
                      go_wp2_with fail
                      go_quiet (fail)
                      have HX3 := Aside0.mk (HX.out.drewN nq)
                      clear HX ql qn
                      clear ha0 hb0 ha1 hb1 ha2 hb2 ha3 hb3 ha4 hb4 ha5 hb5
                      generalize wr.drewN nq = wq at *
                      clear wr
                      go_wp2_with fail
                      go_loopw [8] (fun v wr => ∃ x : Int, 0 ≤ x ∧ x ≤ n2 ∧ v = .int .i64 x ∧ Aside0 (x2.take x.toNat = x2'.take x.toNat) ∧ Aside0 (SP w wr (.slice A0 n0 c0) (.slice A1 n1 c1) (.int .i64 l0) (.slice A2 n2 c2) (.int .i64 l1) (.slice A3 n3 c3) (.slice B0 n0 d0) (.slice B1 n1 d1) (.int .i64 l0) (.slice B2 n2 d2) (.int .i64 k1) (.slice B3 m3 d3))) (fun v _ => n2 - (intOf v).toNat)
                      case atStart => exact ⟨0, by omega, by omega, rfl, ⟨rfl⟩, HX3⟩
                      case round =>
                        obtain ⟨x, hx0, hx1, rfl, HT, HX⟩ := hrel
                        have ha0 := HX.out.a0
                        have ha1 := HX.out.a1
                        have ha2 := HX.out.a2
                        have ha3 := HX.out.a3
                        have ha4 := HX.out.a4
                        have ha5 := HX.out.a5
                        have hb0 := HX.out.b0
                        have hb1 := HX.out.b1
                        have hb2 := HX.out.b2
                        have hb3 := HX.out.b3
                        have hb4 := HX.out.b4
                        have hb5 := HX.out.b5
                        by_cases hlt : x < n2
                        · have hd : decide (x < (n2 : Int)) = true := decide_eq_true hlt
                          obtain ⟨ad, e1, he0, he1, he2⟩ := at_T72 HC2.out.1 x hx0 hlt
                          cases e1
                          obtain ⟨bd, e2, hg0, hg1, hg2⟩ := at_T72 HC2.out.2 x hx0 hlt
                          cases e2
                          replace he0 := pw_cell_below HX.out.bel he0
                          replace hg0 := pw_cell_below HX.out.bel hg0
                          replace he1 := pw_cell_below HX.out.bel he1
                          replace hg1 := pw_cell_below HX.out.bel hg1
                          replace he2 := pw_cell_below HX.out.bel he2
                          replace hg2 := pw_cell_below HX.out.bel hg2
                          have hsn := take_succ72 x2 x2' (x := x) hx0 (by rw [HN2.out.1]; exact hlt) (by rw [HN2.out.2]; exact hlt) HT.out
                          have HSN := Aside0.mk hsn
                          clear hsn
                          have HNE : Aside0 (rd_T72 x2 x ≠ rd_T72 x2' x → r = false) := ⟨fun h => by rw [HR.out]; exact decide_eq_false (fun e => h (by rw [e.2.2.2.1]))⟩
                          generalize rd_T72 x2 x = y at *
                          generalize rd_T72 x2' x = y' at *
                          have p0 := eq_true hx0
                          have p1 := eq_true hlt
                          by_cases hy : y = y'
                          · have he := eqS72 y y' true (decide_eq_true hy)
                            have HY := Aside0.mk (HSN.out hy)
                            clear hy
                            go_wp2_with fail
                            go_quiet (fail)
                            have HX2 := Aside0.mk (HX.out.drewN nq)
                            go_wp2
                            go_roundw
                            case rel => exact ⟨x + 1, by omega, by omega, by go_num, HY, HX2⟩
                            case measure => simp [intOf]; omega
                          · have he := eqS72 y y' false (decide_eq_false hy)
                            have HY := Aside0.mk (HNE.out hy)
                            clear hy
                            go_wp2_with fail
                            go_quiet (fail)
                            have HX2 := Aside0.mk (HX.out.drewN nq)
                            go_wp2
                            go_ret
                            exact ⟨by rw [HY.out]; rfl, HX2.out.bel⟩
                        · obtain rfl : x = (n2 : Int) := by omega
                          have hd : decide ((n2 : Int) < (n2 : Int)) = false := decide_eq_false (by omega)
                          have HA2 := Aside0.mk (take_all72 HN2.out.1 HN2.out.2 HT.out)
                          clear HT hx0 hx1 hlt
                          go_wp2
                          go_roundw
                          case rel => exact ⟨1, by omega, by go_num, ⟨fun _ => ⟨by first | trivial | rfl, HA2.out⟩, fun h => absurd h (by decide)⟩, HX⟩
                          case measure => simp [intOf]
                    · have qx : ((n2 : Int) != (m2 : Int)) = true := bne_iff_ne.2 (by omega)
                      have HF : Aside0 (r = false) := ⟨by rw [HR.out]; exact decide_eq_false (fun e => gn (by rw [← HN2.out.1, ← HN2.out.2, e.2.2.2.1]))⟩
                      clear gn
                      go_wp2_with fail
                      go_quiet (fail)
                      have HX2 := Aside0.mk (HX.out.drewN nq)
                      go_wp2
                      go_ret
                      exact ⟨by rw [HF.out]; rfl, HX2.out.bel⟩
                  · have qx : (l0 != k0) = true := bne_iff_ne.2 (by omega)
                    have HF : Aside0 (r = false) := ⟨by rw [HR.out]; exact decide_eq_false (fun e => gl e.1.1)⟩
                    clear gl
                    go_wp2_with fail
                    go_quiet (fail)
                    have HX2 := Aside0.mk (HX.out.drewN nq)
                    go_wp2
                    go_ret
                    exact ⟨by rw [HF.out]; rfl, HX2.out.bel⟩
                | 1, _ =>
                  have ha0 := HX.out.a0
                  have ha1 := HX.out.a1
                  have ha2 := HX.out.a2
                  have ha3 := HX.out.a3
                  have ha4 := HX.out.a4
                  have ha5 := HX.out.a5
                  have hb0 := HX.out.b0
                  have hb1 := HX.out.b1
                  have hb2 := HX.out.b2
                  have hb3 := HX.out.b3
                  have hb4 := HX.out.b4
                  have hb5 := HX.out.b5
                  by_cases gl : l1 = k1
                  · subst gl
                    have ql : (l1 != l1) = false := by simp
                    by_cases gn : n3 = m3
                    · subst gn
                      have qn : ((n3 : Int) != (n3 : Int)) = false := by simp
                      go_wp2_with fail
                      go_quiet (fail)
                      have HX3 := Aside0.mk (HX.out.drewN nq)
                      clear HX ql qn
                      clear ha0 hb0 ha1 hb1 ha2 hb2 ha3 hb3 ha4 hb4 ha5 hb5
                      generalize wr.drewN nq = wq at *
                      clear wr
                      go_wp2_with fail
                      go_loopw [8] (fun v wr => ∃ x : Int, 0 ≤ x ∧ x ≤ n3 ∧ v = .int .i64 x ∧ Aside0 (x3.take x.toNat = x3'.take x.toNat) ∧ Aside0 (SP w wr (.slice A0 n0 c0) (.slice A1 n1 c1) (.int .i64 l0) (.slice A2 n2 c2) (.int .i64 l1) (.slice A3 n3 c3) (.slice B0 n0 d0) (.slice B1 n1 d1) (.int .i64 k0) (.slice B2 m2 d2) (.int .i64 l1) (.slice B3 n3 d3))) (fun v _ => n3 - (intOf v).toNat)
                      case atStart => exact ⟨0, by omega, by omega, rfl, ⟨rfl⟩, HX3⟩
                      case round =>
                        obtain ⟨x, hx0, hx1, rfl, HT, HX⟩ := hrel
                        have ha0 := HX.out.a0
                        have ha1 := HX.out.a1
                        have ha2 := HX.out.a2
                        have ha3 := HX.out.a3
                        have ha4 := HX.out.a4
                        have ha5 := HX.out.a5
                        have hb0 := HX.out.b0
                        have hb1 := HX.out.b1
                        have hb2 := HX.out.b2
                        have hb3 := HX.out.b3
                        have hb4 := HX.out.b4
                        have hb5 := HX.out.b5
                        by_cases hlt : x < n3
                        · have hd : decide (x < (n3 : Int)) = true := decide_eq_true hlt
                          obtain ⟨ad, e1, he0, he1, he2⟩ := at_T72 HC3.out.1 x hx0 hlt
                          cases e1
                          obtain ⟨bd, e2, hg0, hg1, hg2⟩ := at_T72 HC3.out.2 x hx0 hlt
                          cases e2
                          replace he0 := pw_cell_below HX.out.bel he0
                          replace hg0 := pw_cell_below HX.out.bel hg0
                          replace he1 := pw_cell_below HX.out.bel he1
                          replace hg1 := pw_cell_below HX.out.bel hg1
                          replace he2 := pw_cell_below HX.out.bel he2
                          replace hg2 := pw_cell_below HX.out.bel hg2
                          have hsn := take_succ72 x3 x3' (x := x) hx0 (by rw [HN3.out.1]; exact hlt) (by rw [HN3.out.2]; exact hlt) HT.out
                          have HSN := Aside0.mk hsn
                          clear hsn
                          have HNE : Aside0 (rd_T72 x3 x ≠ rd_T72 x3' x → r = false) := ⟨fun h => by rw [HR.out]; exact decide_eq_false (fun e => h (by rw [e.2.2.2.2]))⟩
                          generalize rd_T72 x3 x = y at *
                          generalize rd_T72 x3' x = y' at *
                          have p0 := eq_true hx0
                          have p1 := eq_true hlt
                          by_cases hy : y = y'
                          · have he := eqS72 y y' true (decide_eq_true hy)
                            have HY := Aside0.mk (HSN.out hy)
                            clear hy
                            go_wp2_with fail
                            go_quiet (fail)
                            have HX2 := Aside0.mk (HX.out.drewN nq)
                            go_wp2
                            go_roundw
                            case rel => exact ⟨x + 1, by omega, by omega, by go_num, HY, HX2⟩
                            case measure => simp [intOf]; omega
                          · have he := eqS72 y y' false (decide_eq_false hy)
                            have HY := Aside0.mk (HNE.out hy)
                            clear hy
                            go_wp2_with fail
                            go_quiet (fail)
                            have HX2 := Aside0.mk (HX.out.drewN nq)
                            go_wp2
                            go_ret
                            exact ⟨by rw [HY.out]; rfl, HX2.out.bel⟩
                        · obtain rfl : x = (n3 : Int) := by omega
                          have hd : decide ((n3 : Int) < (n3 : Int)) = false := decide_eq_false (by omega)
                          have HA3 := Aside0.mk (take_all72 HN3.out.1 HN3.out.2 HT.out)
                          clear HT hx0 hx1 hlt
                          go_wp2
                          go_roundw
                          case rel => exact ⟨2, by omega, by go_num, ⟨fun _ => HZ.out.1 (by decide), fun _ => ⟨by first | trivial | rfl, HA3.out⟩⟩, HX⟩
                          case measure => simp [intOf]
                    · have qx : ((n3 : Int) != (m3 : Int)) = true := bne_iff_ne.2 (by omega)
                      have HF : Aside0 (r = false) := ⟨by rw [HR.out]; exact decide_eq_false (fun e => gn (by rw [← HN3.out.1, ← HN3.out.2, e.2.2.2.2]))⟩
                      clear gn
                      go_wp2_with fail
                      go_quiet (fail)
                      have HX2 := Aside0.mk (HX.out.drewN nq)
                      go_wp2
                      go_ret
                      exact ⟨by rw [HF.out]; rfl, HX2.out.bel⟩
                  · have qx : (l1 != k1) = true := bne_iff_ne.2 (by omega)
                    have HF : Aside0 (r = false) := ⟨by rw [HR.out]; exact decide_eq_false (fun e => gl e.1.2)⟩
                    clear gl
                    go_wp2_with fail
                    go_quiet (fail)
                    have HX2 := Aside0.mk (HX.out.drewN nq)
                    go_wp2
                    go_ret
                    exact ⟨by rw [HF.out]; rfl, HX2.out.bel⟩
                | 2, _ =>
                  have HF : Aside0 (r = true) := ⟨by rw [HR.out]; exact decide_eq_true ⟨⟨(HZ.out.1 (by decide)).1, (HZ.out.2 (by decide)).1⟩, HA0.out, HA1.out, (HZ.out.1 (by decide)).2, (HZ.out.2 (by decide)).2⟩⟩
                  go_wp2
                  go_ret
                  exact ⟨by rw [HF.out]; rfl, HX.out.bel⟩
    · have q1 : ((n1 : Int) != (m1 : Int)) = true := by simp; omega
      have HF : Aside0 (r = false) := ⟨by rw [HR.out]; exact decide_eq_false (fun e => g1 (by rw [← HN1.out.1, ← HN1.out.2, e.2.2.1]))⟩
      clear g1
      go_enter Try.func16, Try.ntmps16
      go_wp2
      go_ret
      exact ⟨by rw [HF.out]; rfl, HP.out.bel⟩
  · have q0 : ((n0 : Int) != (m0 : Int)) = true := by simp; omega
    have HF : Aside0 (r = false) := ⟨by rw [HR.out]; exact decide_eq_false (fun e => g0 (by rw [← HN0.out.1, ← HN0.out.2, e.2.1]))⟩
    clear g0
    go_enter Try.func16, Try.ntmps16
    go_wp2
    go_ret
    exact ⟨by rw [HF.out]; rfl, HP.out.bel⟩
end Go.Proofs.Ytbpmmabdjabfcaa.Table
