import Derived.Test.YtegckjbjbodhhaaWeaveRank
import Derived.Test.YtegckjbjbodhhaaWeaveWakes
import Derived.Test.YtegckjbjbodhhaaPWx5
import Derived.Test.YtegckjbjbodhhaaOpn
/- The law WeaveRank: its walk. -/
namespace Go.Proofs.Ytegckjbjbodhhaa.Weave
open Go.RowKit Go.Proofs.YtegckjbjbodhhaaW.PrintWords Go.Proofs.YtegckjbjbodhhaaW.PrintMore
theorem opn_acts : Opn.Opn Try.prog 26 (Kd.slice 3 (Kd.int .i64)) (fun xs => xs.length ≤ maxLen ∧ ∀ x ∈ xs, (Lit.int .i64 x).wf = true) := Opn.opn_slice Try.underlying26 (by kernel_rfl) (Opn.opn_int Try.underlying3)
theorem C_int_at {A : Option Addr} {l : List Int} {w : World} {n : Nat} (h : Kd.C (Kd.int .i64) w A n l) (k : Nat) (hk : k < n) : ∃ ad, A = some ad ∧ w.cell? (ad.add k) = some (.int .i64 (rd l k)) := by
  obtain ⟨ad, cs, rfl, _, hK, hcell⟩ := Kd.C_get h 0 (k : Int) (by omega) (by omega)
  have hcs : cs = [.int .i64 (l.getD (k : Int).toNat 0)] := hK
  subst hcs
  have h1 := hcell 0 _ rfl
  rw [show (k : Int).toNat * (Kd.int .i64).sz + 0 = k by show (k : Int).toNat * 1 + 0 = k; omega] at h1
  exact ⟨ad, rfl, h1⟩
theorem ones_take (l : List Int) (k : Nat) (hk : k < l.length) : ones (l.take (k + 1)) = ones (l.take k) + (if l[k] = 1 then 1 else 0) := by
  have happ : ∀ a b : List Int, ones (a ++ b) = ones a + ones b := by
    intro a b
    induction a with
    | nil => simp [ones]
    | cons x a ih => simp only [List.cons_append, ones, ih]; omega
  rw [List.take_succ_eq_append_getElem hk, happ]
  simp [ones]
theorem wayAt_rk {n m : Nat} {l : List Int} (hw : isW l = true) (hl : l.length = n + m) (ho : ones l = m) (hnm : n + m ≤ 16) : wayAt (n : Int) (m : Int) ((rk n m l : Nat) : Int) = some l := by
  unfold wayAt
  rw [if_pos (by omega), Int.toNat_natCast, allW_at n m hnm]
  exact rk_at l n m hw hl ho hnm
set_option maxRecDepth 100000 in
set_option maxHeartbeats 2000000 in
theorem WeaveRank_walk (W : World) (A : Option Addr) (n c : Nat) (l : List Int) (hK : (Kd.slice 3 (Kd.int .i64)).K W l (Value.slice A n c).cells.toList) (_hV : l.length ≤ maxLen ∧ ∀ x ∈ l, (Lit.int .i64 x).wf = true) :
    Calls Try.prog 6 #[.slice A n c] W fun e w' => e = .returned (.bool true) ∧ Below W.heap.size W w' := by
  obtain ⟨A', c', he, hc, hr⟩ := hK
  simp only [Value.cells, List.cons.injEq, Value.slice.injEq, and_true] at he
  obtain ⟨rfl, rfl, rfl⟩ := he
  clear _hV
  have HR := Aside0.mk hr
  have HC := Aside0.mk hc
  have hmx := Kd.C_max hr
  clear hr hc
  obtain ⟨len, hlen⟩ : ∃ len, l.length = len := ⟨_, rfl⟩
  rw [hlen] at HR HC hmx ⊢
  by_cases hbig : 100 < len
  · go_enter Try.func6, Try.ntmps6
    go_wp2_with (go_at_call 7; refine (wakes_calls _).mono ?_; rintro e w1 ⟨rfl, hb⟩; have HB := Aside0.mk hb; clear hb)
    go_ret
    exact ⟨rfl, HB.out⟩
  · have hdb : decide ((100 : Int) < (len : Int)) = false := decide_eq_false (by omega)
    have HL := Aside0.mk hlen
    go_enter Try.func6, Try.ntmps6
    go_wp2_with fail
    refine (wakes_calls _).mono ?_
    rintro e w1 ⟨rfl, hb⟩
    have HB := Aside0.mk hb
    clear hb
    go_wp2_with fail
    have hrk := rank_f l (by omega)
    obtain ⟨rat, rok, hrr, hrr2⟩ : ∃ rat rok, PW.weave_Rank.f 200 l = some (rat, rok) ∧ (rat, rok) = (if isW l = true ∧ mayB ((l.length - ones l : Nat) : Int) ((ones l : Nat) : Int) = true then ((rk (l.length - ones l) (ones l) l : Int), true) else (0, false)) := ⟨_, _, hrk, rfl⟩
    have hcall := PW.weave_Rank.calls 200 A c l rat rok w1 (by rw [hlen]; exact Kd.C_below HR.out HB.out) (by rw [hlen]; exact HC.out) hrr
    rw [hlen] at hcall
    refine hcall.mono ?_
    clear hcall hrr hrk
    rintro e w2 ⟨rfl, hd⟩
    have HB2 := Aside0.mk (HB.out.trans (hd.below.mono HB.out.size))
    have HRR := Aside0.mk hrr2
    clear hd hrr2 hlen
    go_wp2
    go_loop [5, 23] (fun s i => ∃ k q : Nat, k ≤ len ∧ i = .int .i64 k ∧ s = .int .i64 q ∧ Aside0 (q = ones (l.take k)) ∧ q ≤ k) (fun _ i => len - (intOf i).toNat)
    case atStart => exact ⟨0, 0, Nat.zero_le _, rfl, rfl, ⟨rfl⟩, Nat.le_refl _⟩
    case round =>
      obtain ⟨k, q, hk, rfl, rfl, hq, hqk⟩ := hrel
      by_cases hlt : k < len
      · obtain ⟨ad, rfl, hcell⟩ := C_int_at (Kd.C_below HR.out HB2.out) k hlt
        have hkl : k < l.length := by rw [HL.out]; exact hlt
        rw [rd_at l k hkl] at hcell
        have hs := ones_take l k hkl
        rw [← hq.out] at hs
        obtain ⟨x, hx⟩ : ∃ x, l[k] = x := ⟨_, rfl⟩
        rw [hx] at hcell hs
        clear hx
        by_cases h1 : x = 1
        · subst h1
          rw [if_pos rfl] at hs
          have HS := Aside0.mk hs
          clear hs
          go_wp2
          go_round
          case rel => exact ⟨k + 1, q + 1, by omega, by go_num, by go_num, ⟨HS.out.symm⟩, by omega⟩
          case measure => simp [intOf]; omega
        · rw [if_neg h1] at hs
          have HS := Aside0.mk hs
          have hx1 : (x == 1) = false := beq_eq_false_iff_ne.2 h1
          clear hs
          go_wp2
          go_round
          case rel => exact ⟨k + 1, q, by omega, by go_num, by go_num, ⟨HS.out.symm⟩, by omega⟩
          case measure => simp [intOf]; omega
      · obtain rfl : k = len := by omega
        have hq2 := hq.out
        rw [← HL.out, List.take_length] at hq2
        have hq3 : q ≤ k := hqk
        have hrr := HRR.out
        rw [HL.out, ← hq2] at hrr
        have ecast : ((k - q : Nat) : Int) = (k : Int) - (q : Int) := by omega
        rw [ecast] at hrr
        have hmay := PW.portholeref27_May.calls ((k : Int) - (q : Int)) (q : Int) _ w2 (rmay_f _ _)
        have hway := fun (w : World) (hb : Below W.heap.size W w) => PW.portholeref27_Way.calls 200 A c l ((k : Int) - (q : Int)) (q : Int) _ w (by rw [HL.out]; exact Kd.C_below HR.out hb) (by rw [HL.out]; exact HC.out) (way_f 200 l _ _ (by rw [HL.out]; omega) (by rw [HL.out]; omega))
        have hwb : wayB l ((k : Int) - (q : Int)) (q : Int) = isW l := by
          unfold wayB
          rw [HL.out, ← hq2, decide_eq_true (by unfold wrap64; omega)]
          simp
        rw [hwb, HL.out] at hway
        have HW := Aside0.mk hway
        have HQ2 := Aside0.mk hq2
        clear hway hwb hq hq2 hlt
        cases hm : mayB ((k : Int) - (q : Int)) (q : Int) with
        | false =>
          rw [hm] at hmay
          rw [if_neg (fun h => by rw [hm] at h; exact Bool.noConfusion h.2)] at hrr
          obtain ⟨rfl, rfl⟩ := Prod.mk.inj hrr
          go_wp2_with fail
          refine hmay.mono ?_
          rintro e w3 ⟨rfl, hd⟩
          have HB3 := Aside0.mk (HB2.out.trans (hd.below.mono HB2.out.size))
          clear hd hmay hrr
          go_wp2
          go_ret
          exact ⟨rfl, HB3.out⟩
        | true =>
          rw [hm] at hmay
          cases hw : isW l with
          | false =>
            rw [if_neg (fun h => by rw [hw] at h; exact Bool.noConfusion h.1)] at hrr
            obtain ⟨rfl, rfl⟩ := Prod.mk.inj hrr
            go_wp2_with fail
            refine hmay.mono ?_
            rintro e w3 ⟨rfl, hd⟩
            have HB3 := Aside0.mk (HB2.out.trans (hd.below.mono HB2.out.size))
            clear hmay hrr
            have hwy := HW.out w3 HB3.out
            rw [hw] at hwy
            go_wp2_with fail
            refine hwy.mono ?_
            rintro e w4 ⟨rfl, hd⟩
            have HB4 := Aside0.mk (HB3.out.trans (hd.below.mono HB3.out.size))
            clear hd hwy
            go_wp2
            go_ret
            exact ⟨rfl, HB4.out⟩
          | true =>
            rw [if_pos ⟨hw, hm⟩] at hrr
            obtain ⟨hra, rfl⟩ := Prod.mk.inj hrr
            have hat : wayAt ((k : Int) - (q : Int)) (q : Int) rat = some l := by
              rw [hra, ← ecast]
              exact wayAt_rk hw (by rw [HL.out]; omega) HQ2.out.symm (by have := (mayB_iff _ _).1 hm; omega)
            have hnth := fun w => PW.weave_Nth.calls 60 ((k : Int) - (q : Int)) (q : Int) rat _ _ w (nth_some _ _ _ _ hat)
            have HNTH := Aside0.mk hnth
            clear hnth hat hra hrr
            go_wp2_with fail
            refine hmay.mono ?_
            rintro e w3 ⟨rfl, hd⟩
            have HB3 := Aside0.mk (HB2.out.trans (hd.below.mono HB2.out.size))
            have hwy := HW.out w3 HB3.out
            rw [hw] at hwy
            clear hd hmay
            go_wp2_with fail
            refine hwy.mono ?_
            rintro e w4 ⟨rfl, hd⟩
            have HB4 := Aside0.mk (HB3.out.trans (hd.below.mono HB3.out.size))
            clear hd hwy
            go_wp2_with fail
            refine (HNTH.out w4).mono ?_
            rintro e w5 ⟨v, rfl, hv, hb⟩
            have HB5 := Aside0.mk (HB4.out.trans (hb.mono HB4.out.size))
            obtain ⟨Av, cv, rfl⟩ := Kd.R_slice hv
            obtain ⟨_, hcv, hrv⟩ := Kd.R_reads' hv
            have hsame := PW.portholeref01_Same.calls 200 Av cv l A c l _ w5 hrv hcv (by rw [HL.out]; exact Kd.C_below HR.out HB5.out) (by rw [HL.out]; exact HC.out) (same_f 200 l l (by rw [HL.out]; omega) (by rw [HL.out]; omega))
            rw [HL.out, decide_eq_true rfl] at hsame
            rw [HL.out]
            clear hv hcv hrv hb
            go_wp2_with fail
            refine hsame.mono ?_
            rintro e w6 ⟨rfl, hd⟩
            have HB6 := Aside0.mk (HB5.out.trans (hd.below.mono HB5.out.size))
            clear hd hsame
            go_wp2
            go_ret
            exact ⟨rfl, HB6.out⟩
end Go.Proofs.Ytegckjbjbodhhaa.Weave
