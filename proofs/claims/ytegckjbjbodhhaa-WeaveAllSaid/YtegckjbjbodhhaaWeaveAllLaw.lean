import Derived.Test.YtegckjbjbodhhaaWeaveNext
import Derived.Test.YtegckjbjbodhhaaWeaveWakes
import Derived.BigQuiet
import Derived.OpenShut
/- The law WeaveAll: its walk. -/
namespace Go.Proofs.Ytegckjbjbodhhaa.Weave
open Go.RowKit Go.Proofs.YtegckjbjbodhhaaW.PrintWords Go.Proofs.YtegckjbjbodhhaaW.PrintMore
/-- got[i][k] = 9: what is read, and what stands behind it. -/
theorem row_write {B i k len cg xl : Nat} {W : World} {adg : Addr} {G : List (List Int)} {y : List Int} (hS : Kd.S (Kd.slice 3 (Kd.int .i64)) 26 W B (fun _ => True) (.slice (some adg) len cg) (G.set i y)) (hG : G.length = len) (hi : i < len) (hy : y.length = xl) (hk : k < xl) :
    ∃ g0 c0 u, W.cell? (adg.add i) = some (.slice (some ⟨g0, 0, none⟩) xl c0) ∧ W.cell? ⟨g0, k, none⟩ = some u ∧ W.frozen? ⟨g0, k, none⟩ = false ∧ B ≤ g0 ∧ Kd.S (Kd.slice 3 (Kd.int .i64)) 26 (W.setCell ⟨g0, k, none⟩ (.int .i64 9)) B (fun _ => True) (.slice (some adg) len cg) (G.set i (y.set k 9)) := by
  obtain ⟨oki, c, hcl, hM, hcell, hoki, hback⟩ := Kd.S_borrow hS [] (i : Int) (by omega) (by omega)
  rw [Int.toNat_natCast, show (G.set i y).getD i [] = y by rw [List.getD_eq_getElem?_getD, List.getElem?_set_self (by omega)]; rfl] at hM
  obtain ⟨v0, rfl, hR⟩ := hM
  obtain ⟨g0, c0, rfl, hb, _, _⟩ := Kd.R_form hR (by omega)
  obtain ⟨c', hcl', hM', hc', hf'⟩ := Kd.R_elem hR 0 (k : Int) (by omega) (by omega)
  have hp := Kd.R_putg hR (k : Int) 9
  rw [Int.toNat_natCast] at hp
  have h1 := hcell 0 _ rfl
  rw [show (i : Int).toNat * (Kd.slice 3 (Kd.int .i64)).sz + 0 = i by show (i : Int).toNat * 1 + 0 = i; omega, hy] at h1
  have h2 : c'[0]? = some (c'[0]'(by rw [hcl']; exact Nat.one_pos)) := List.getElem?_eq_getElem _
  have h3 := hc' 0 _ h2
  have h4 := hf' 0
  rw [show (k : Int).toNat * (Kd.int .i64).sz + 0 = k by show (k : Int).toNat * 1 + 0 = k; omega] at h3 h4
  have hfin := hback (x' := y.set k 9) hp.2 (fun k hk => by cases hk; exact hR.1 _ (by simp [Value.ownBlock])) ⟨_, rfl, hp.1⟩
  rw [Int.toNat_natCast, List.set_set] at hfin
  exact ⟨g0, c0, _, h1, h3, h4, hb, hfin⟩
set_option maxRecDepth 100000 in
set_option maxHeartbeats 8000000 in
theorem WeaveAll_walk (W : World) (n : Int) (_hn : (Lit.int .i64 n).wf = true) (m : Int) (_hm : (Lit.int .i64 m).wf = true) (s : Int) (hs : (Lit.int .u8 s).wf = true) :
    Calls Try.prog 3 #[.int .i64 n, .int .i64 m, .int .u8 s] W fun e w' => e = .returned (.bool true) ∧ Below W.heap.size W w' := by
  have hb := bounds_u8 hs
  obtain ⟨q, rfl⟩ := Int.eq_ofNat_of_zero_le hb.1
  have hq : q ≤ 255 := by omega
  clear hs hb _hn _hm
  have hall := rall_f n m q hq
  have htold := fun w => told_calls n m (q : Int) w
  have hL16 : ∀ x ∈ (allW n m).take q, x.length ≤ 16 := fun x hx => (wayB_of n m x (List.mem_of_mem_take hx)).2
  simp only [Int.toNat_natCast] at htold
  generalize (allW n m).take q = L at *
  obtain ⟨len, hlen⟩ : ∃ len, L.length = len := ⟨_, rfl⟩
  have HALL := Aside0.mk hall
  have HTOLD := Aside0.mk htold
  have HL := Aside0.mk hL16
  have HLE := Aside0.mk hlen
  clear hall htold hL16 hlen
  go_enter Try.func3, Try.ntmps3
  go_wp2_with fail
  refine (wakes_calls W).mono ?_
  rintro e w1 ⟨rfl, h1⟩
  have HB1 := Aside0.mk h1
  clear h1
  go_wp2_with fail
  refine (PW.portholeref27_All.calls 400 n m (q : Int) _ w1 HALL.out).mono ?_
  rintro e w2 ⟨vw, rfl, hw, hb2⟩
  have HB2 := Aside0.mk (HB1.out.trans (hb2.mono HB1.out.size))
  obtain ⟨Aw, cw, rfl⟩ := Kd.S_slice hw
  rw [HLE.out] at hw ⊢
  have HWC := Aside0.mk (Kd.S_reads' hw).2.2
  clear hw hb2
  go_wp2_with fail
  refine (HTOLD.out w2).mono ?_
  rintro e w3 ⟨vg, rfl, hg, hb3⟩
  obtain ⟨Ag, cg, rfl⟩ := Kd.S_slice hg
  have hmx := Kd.C_max (Kd.S_reads' hg).2.2
  rw [HLE.out] at hg hmx ⊢
  have HG := Aside0.mk hg
  have HB3 := Aside0.mk hb3
  clear hg hb3
  go_wp2
  go_loopw [30] (fun v wr => ∃ (i : Nat) (G : List (List Int)), i ≤ len ∧ v = .int .i64 i ∧ Aside0 (G.length = len) ∧ Aside0 (∀ j, i ≤ j → G[j]? = L[j]?) ∧ Aside0 (Kd.S (Kd.slice 3 (Kd.int .i64)) 26 wr w2.heap.size (fun _ => True) (.slice Ag len cg) G) ∧ Aside0 (Below w2.heap.size w2 wr)) (fun i _ => len - (intOf i).toNat)
  case atStart => exact ⟨0, L, Nat.zero_le _, rfl, HLE, ⟨fun _ _ => rfl⟩, HG, HB3⟩
  case round =>
    obtain ⟨i, G, hi, rfl, HGL, HGE, HG, HB⟩ := hrel
    by_cases hlt : i < len
    · have hiL : i < L.length := by rw [HLE.out]; exact hlt
      have hiG : i < G.length := by rw [HGL.out]; exact hlt
      obtain ⟨x, hx⟩ : ∃ x, L[i] = x := ⟨_, rfl⟩
      have hLx : L[i]? = some x := by rw [List.getElem?_eq_getElem hiL, hx]
      have hGx : G[i]? = some x := by rw [HGE.out i (Nat.le_refl _), hLx]
      have hx16 : x.length ≤ 16 := HL.out x (by rw [← hx]; exact List.getElem_mem hiL)
      have e1 : PW.rd_L1 G (i : Int) = x := by unfold PW.rd_L1; rw [Int.toNat_natCast, List.getD_eq_getElem?_getD, hGx]; rfl
      have e2 : PW.rd_L1 L (i : Int) = x := by unfold PW.rd_L1; rw [Int.toNat_natCast, List.getD_eq_getElem?_getD, hLx]; rfl
      obtain ⟨adg, Agi, cgi, rfl, hcg, hlg, hrg⟩ := PW.at_L1 (Kd.S_reads' HG.out).2.2 (i : Int) (by omega) (by rw [HGL.out]; omega)
      obtain ⟨adw, Awi, cwi, rfl, hcw, hlw, hrw⟩ := PW.at_L1 (Kd.C_below HWC.out HB.out) (i : Int) (by omega) (by omega)
      rw [e1] at hcg hlg hrg
      rw [e2] at hcw hlw hrw
      rw [Int.toNat_natCast] at hcg hcw
      have HRG := Aside0.mk hrg
      have HRW := Aside0.mk hrw
      have HCG := Aside0.mk hlg
      have HCW := Aside0.mk hlw
      have HX := Aside0.mk hx16
      have HGX := Aside0.mk hGx
      clear hrg hrw hlg hlw hx16 hGx hLx hx e1 e2 hiL hiG
      obtain ⟨xl, hxl⟩ : ∃ xl, x.length = xl := ⟨_, rfl⟩
      rw [hxl] at hcg hcw HRG HRW HCG HCW HX
      have HXL := Aside0.mk hxl
      clear hxl
      have hsame := same_f 60 x x (by rw [HXL.out]; have := HX.out; omega) (by rw [HXL.out]; have := HX.out; omega)
      rw [decide_eq_true rfl] at hsame
      have hsc := fun (w : World) (h1 : Kd.C (Kd.int .i64) w Agi xl x) (h2 : Kd.C (Kd.int .i64) w Awi xl x) => PW.portholeref01_Same.calls 60 Agi cgi x Awi cwi x true w (by rw [HXL.out]; exact h1) (by rw [HXL.out]; exact HCG.out) (by rw [HXL.out]; exact h2) (by rw [HXL.out]; exact HCW.out) hsame
      rw [HXL.out] at hsc
      have HSC := Aside0.mk hsc
      clear hsame hsc
      go_wp2
      go_quiet ((go_at_call 10; exact Calls.quiet_of ((HSC.out _ (Kd.C_drewN HRG.out _) (Kd.C_drewN HRW.out _)).mono (fun e w h => ⟨h.1, h.2.out⟩))))
      have hcgW : (wr.drewN nq).cell? (adg.add i) = some (.slice Agi xl cgi) := hcg
      have HGW := Aside0.mk (Kd.S_drewN HG.out nq)
      have HBW := Aside0.mk (pw_below_drewN HB.out nq)
      generalize wr.drewN nq = wo at *
      go_wp2
      have hGs : G.set i x = G := by
        obtain ⟨h1, h2⟩ := List.getElem?_eq_some_iff.1 HGX.out
        rw [← h2, List.set_getElem_self]
      have hxb : xl ≤ 16 := HX.out
      go_loopw [48] (fun v wz => ∃ (k : Nat) (y : List Int), k ≤ xl ∧ v = .int .i64 k ∧ Aside0 (y.length = xl) ∧ Aside0 (Kd.S (Kd.slice 3 (Kd.int .i64)) 26 wz w2.heap.size (fun _ => True) (.slice (some adg) len cg) (G.set i y)) ∧ Aside0 (Below w2.heap.size w2 wz)) (fun v _ => xl - (intOf v).toNat)
      case atStart => exact ⟨0, x, Nat.zero_le _, rfl, HXL, ⟨by rw [hGs]; exact HGW.out⟩, HBW⟩
      case round =>
        obtain ⟨k, y, hk, rfl, HY, HS, HBZ⟩ := hrel
        clear hGs
        by_cases hkl : k < xl
        · obtain ⟨g0, c0, u, hw1, hw2, hw3, hw4, hw5⟩ := row_write HS.out HGL.out hlt HY.out hkl
          have HS5 := Aside0.mk hw5
          have HB5 := Aside0.mk (below_set (j := k) (v := .int .i64 9) HBZ.out hw4)
          clear hw5 hcgW hcg hcw
          go_wp2
          go_roundw
          case rel => exact ⟨k + 1, y.set k 9, by omega, by go_num, ⟨by rw [List.length_set]; exact HY.out⟩, HS5, HB5⟩
          case measure => simp [intOf]; omega
        · go_wp2
          go_roundw
          case rel => exact ⟨i + 1, G.set i y, by omega, by go_num, ⟨by rw [List.length_set]; exact HGL.out⟩, ⟨fun j hj => by rw [List.getElem?_set_ne (by omega)]; exact HGE.out j (by omega)⟩, HS, HBZ⟩
          case measure => simp [intOf]; omega
    · go_wp2
      go_ret
      exact ⟨rfl, HB2.out.trans (HB.out.mono HB2.out.size)⟩
end Go.Proofs.Ytegckjbjbodhhaa.Weave
