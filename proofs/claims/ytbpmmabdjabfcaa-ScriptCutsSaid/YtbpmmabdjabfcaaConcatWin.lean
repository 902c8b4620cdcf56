import Derived.Test.YtbpmmabdjabfcaaClone
import Derived.Test.YtbpmmabdjabfcaaWZeros
import Derived.LoopTactic
import Derived.WalkKit
import Derived.Deep.LoopGhost
import Derived.Test.YtbpmmabdjabfcaaPTx0
/- slices.Grow (of nil) and slices.Concat at []porthole/api.Window: the parts, one behind the other. -/
namespace Go.Proofs.Ytbpmmabdjabfcaa.Box
open Go.RowKit Go.Proofs.YtbpmmabdjabfcaaW.PrintWords Go.Proofs.YtbpmmabdjabfcaaW.PrintMore Go.Proofs.Ytbpmmabdjabfcaa.PT
theorem info_win : (Try.prog.info? 72).map (fun i => (i.zero, i.size, i.bytes)) = some (some (.agg #[(.int .i64 0), (.int .i64 0), (.int .i64 0)]), (k72).sz, 24) := by kernel_rfl
set_option maxHeartbeats 400000 in
theorem grow_win (n : Int) (w : World) (h0 : 0 ≤ n) (hl : n.toNat * 24 ≤ 140737488355328) :
    Calls Try.prog 71 #[.slice none 0 0, .int .i64 n] w fun e w' => ∃ v, e = .returned v ∧ Kd.R k72 72 w' w.heap.size (fun _ => True) v [] ∧ Below w.heap.size w w' := by
  have HL := Aside0.mk hl
  clear hl
  by_cases hz : n = 0
  · subst hz
    go_enter Try.func71, Try.ntmps71
    go_wp2
    go_ret
    exact ⟨_, rfl, Kd.R_nil _ _ _ _ _, Below.refl _ _⟩
  · have hp : 0 < n := by omega
    have hp2 : n ≤ 9223372036854775807 := by have := HL.out; omega
    clear hz
    go_enter Try.func71, Try.ntmps71
    go_wp2_with (at_builtin; refine Kd.R_append_zeros k72 (w0 := w) w.heap.size rfl (.tmp 20) (.tmp 21) 26 3 72 (.agg #[(.int .i64 0), (.int .i64 0), (.int .i64 0)]) 24 rfl Try.underlying26 Try.underlying3 info_win rfl (by decide) (by omega) (.slice none 0 0) ([] : List S72) z72 n (fun _ => True) rfl rfl ?aZ ?aF ?aO h0 ?aB ?aS ?aL ?_)
    case aZ => first | rfl | exact ⟨_, _, rfl, rfl, ⟨_, _, rfl, rfl, rfl⟩⟩
    case aF => exact fun _ _ => trivial
    case aO => exact Kd.R_nil _ _ _ _ _
    case aB => exact Below.refl _ _
    case aS => exact Nat.le_refl _
    case aL => simpa using HL.out
    intro v1 w1 h1 h2 h3 h4
    obtain ⟨A1, c1, rfl⟩ := Kd.R_slice h1
    have HR := Aside0.mk h1
    have HB := Aside0.mk h2
    clear h1 h2 h3 h4
    go_wp2
    go_ret
    refine ⟨_, rfl, ?_, HB.out⟩
    simpa using Kd.R_take (m := 0) HR.out (Nat.zero_le _)

/-- A part, read in w. -/
theorem part_win {A : Option Addr} {parts : List (List S72)} {w : World} (hr : Kd.C (Kd.slice 72 k72) w A parts.length parts) (k : Nat) (hk : k < parts.length) :
    ∃ ad A1 c1, A = some ad ∧ w.cell? (ad.add k) = some (.slice A1 (parts[k]?.getD []).length c1) ∧ (parts[k]?.getD []).length ≤ c1 ∧ Kd.C k72 w A1 (parts[k]?.getD []).length (parts[k]?.getD []) := by
  obtain ⟨ad, cs, rfl, _, ⟨A1, c1, rfl, hl, hc⟩, hcell⟩ := Kd.C_get hr [] (k : Int) (by omega) (by omega)
  rw [show parts.getD (k : Int).toNat [] = parts[k]?.getD [] from by rw [Int.toNat_natCast, List.getD_eq_getElem?_getD]] at hl hc hcell
  have h0 : w.cell? (ad.add k) = some (.slice A1 (parts[k]?.getD []).length c1) := by
    have h1 := hcell 0 _ rfl
    have h2 : (k : Int).toNat * (Kd.slice 72 k72).sz + 0 = k := by show (k : Int).toNat * 1 + 0 = k; omega
    rw [h2] at h1
    exact h1
  exact ⟨ad, A1, c1, rfl, h0, hl, hc⟩
theorem flat_succ_win (parts : List (List S72)) (k : Nat) (hk : k < parts.length) : (parts.take (k + 1)).flatten = (parts.take k).flatten ++ (parts[k]?.getD []) := by
  rw [List.take_succ_eq_append_getElem hk, List.flatten_append, List.getElem?_eq_getElem hk]; simp
theorem flat_le_win (parts : List (List S72)) (k : Nat) : (parts.take k).flatten.length ≤ parts.flatten.length := by
  have h : parts.flatten = (parts.take k).flatten ++ (parts.drop k).flatten := by rw [← List.flatten_append, List.take_append_drop]
  rw [h, List.length_append]; omega
set_option maxHeartbeats 1000000 in
theorem concat_win (A : Option Addr) (n c : Nat) (parts : List (List S72)) (w : World) (hn : n = parts.length) (hr : Kd.C (Kd.slice 72 k72) w A parts.length parts) (hl : parts.flatten.length * 24 ≤ 140737488355328) :
    Calls Try.prog 45 #[.slice A n c] w fun e w' => ∃ v, e = .returned v ∧ Kd.R k72 72 w' w.heap.size (fun _ => True) v parts.flatten ∧ Below w.heap.size w w' := by
  subst hn
  have hm := Kd.C_max hr
  have HR := Aside0.mk hr
  have HL := Aside0.mk hl
  clear hr hl
  go_enter Try.func45, Try.ntmps45
  go_wp2
  go_loop [3, 11] (fun s i => ∃ k q : Nat, k ≤ parts.length ∧ i = .int .i64 k ∧ s = .int .i64 q ∧ Aside0 (q = (parts.take k).flatten.length)) (fun _ i => parts.length - (intOf i).toNat)
  case atStart => exact ⟨0, 0, Nat.zero_le _, rfl, rfl, ⟨by simp⟩⟩
  case round =>
    obtain ⟨k, q, hk, rfl, rfl, hq⟩ := hrel
    by_cases hlt : k < parts.length
    · obtain ⟨ad, A1, c1, rfl, hcell, hc1, _⟩ := part_win HR.out k hlt
      have hs := flat_succ_win parts k hlt
      have hle := flat_le_win parts (k + 1)
      have hb : q + (parts[k]?.getD []).length ≤ 140737488355328 := by
        have h1 := hq.out
        have h2 := HL.out
        rw [hs, List.length_append] at hle
        omega
      have HS := Aside0.mk (show q + (parts[k]?.getD []).length = (parts.take (k + 1)).flatten.length by rw [hs, List.length_append, ← hq.out])
      clear hs hle hq
      generalize (parts[k]?.getD []).length = m at *
      go_wp2
      go_round
      case rel => exact ⟨k + 1, q + m, by omega, by go_num, by go_num, HS⟩
      case measure => simp [intOf]; omega
    · obtain rfl : k = parts.length := by omega
      have hqn : q * 24 ≤ 140737488355328 := by
        have h1 := hq.out
        have h2 := HL.out
        rw [List.take_length] at h1
        omega
      have hq2 : q ≤ 9223372036854775807 := by omega
      have HQ := Aside0.mk hqn
      clear hqn hq
      go_wp2_with fail
      refine (grow_win (q : Int) w (by omega) (by simpa using HQ.out)).mono ?_
      rintro e w1 ⟨v, rfl, hv, hb⟩
      have HV := Aside0.mk hv
      have HB := Aside0.mk hb
      clear hv hb
      go_wp2
      go_loopw [6, 27] (fun u i wr => ∃ k : Nat, k ≤ parts.length ∧ i = .int .i64 k ∧ Aside0 (Kd.R k72 72 wr w.heap.size (fun _ => True) u (parts.take k).flatten) ∧ Aside0 (Below w.heap.size w wr)) (fun _ i _ => parts.length - (intOf i).toNat)
      case atStart => exact ⟨0, Nat.zero_le _, rfl, ⟨by simpa using HV.out⟩, HB⟩
      case round =>
        obtain ⟨k, hk, rfl, HK, HW⟩ := hrel
        by_cases hlt : k < parts.length
        · obtain ⟨ad, A1, c1, rfl, hcell, hc1, hread⟩ := part_win (Kd.C_below HR.out HW.out) k hlt
          have hs := flat_succ_win parts k hlt
          have hle := flat_le_win parts (k + 1)
          obtain ⟨p, hp⟩ : ∃ p, parts[k]?.getD [] = p := ⟨_, rfl⟩
          rw [hp] at hs hcell hc1 hread
          have hb : ((parts.take k).flatten.length + p.length) * 24 ≤ 140737488355328 := by
            have h2 := HL.out
            rw [hs, List.length_append] at hle
            omega
          have HS := Aside0.mk hs
          have HD := Aside0.mk hread
          have HBB := Aside0.mk hb
          clear hs hle hread hb hp
          go_wp2_with (at_builtin; refine Kd.R_append_rows k72 (w0 := w) w.heap.size rfl (.tmp 31) (.tmp 32) 26 72 (.agg #[(.int .i64 0), (.int .i64 0), (.int .i64 0)]) 24 rfl Try.underlying26 info_win rfl (by decide) (by omega) u6 (parts.take k).flatten p A1 _ c1 (fun _ => True) (fun _ => False) rfl rfl HK.out HD.out (fun _ _ h => h) (fun _ h => h.elim) (fun _ _ => trivial) HW.out HW.out.size HBB.out ?_; intro v1 w2 h1 h2 _ _; have HK2 := Aside0.mk h1; have HW2 := Aside0.mk h2; clear h1 h2)
          go_roundw
          case rel => exact ⟨k + 1, by omega, by go_num, ⟨by rw [HS.out]; exact HK2.out⟩, HW2⟩
          case measure => simp [intOf]; omega
        · obtain rfl : k = parts.length := by omega
          go_wp2
          go_ret
          exact ⟨_, rfl, by simpa using HK.out, HW.out⟩
end Go.Proofs.Ytbpmmabdjabfcaa.Box
