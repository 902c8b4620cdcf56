import Derived.Test.YtndmdlnmjamgkaaRawOnesLaw
import Derived.Test.YtndmdlnmjamgkaaConcat
/- RawJoins: parts that are joined are taken again, part by part. -/
namespace Go.Proofs.Ytndmdlnmjamgkaa.Box
open Go.RowKit Go.Proofs.YtndmdlnmjamgkaaW.PrintWords Go.Proofs.YtndmdlnmjamgkaaW.PrintMore Go.Proofs.Ytndmdlnmjamgkaa.PR
theorem join_calls (A : Option Addr) (n c : Nat) (parts : List (List Int)) (w : World) (hn : n = parts.length) (hr : Kd.C (Kd.slice 29 (Kd.int .u32)) w A parts.length parts) (hl : parts.flatten.length * 4 ≤ 140737488355328) :
    Calls Try.prog 34 #[.slice A n c] w fun e w' => ∃ v, e = .returned v ∧ Kd.R (Kd.int .u32) 29 w' w.heap.size (fun _ => True) v parts.flatten ∧ Below w.heap.size w w' := by
  subst hn
  have HR := Aside0.mk hr
  have HL := Aside0.mk hl
  clear hr hl
  go_enter Try.func34, Try.ntmps34
  go_wp2_with fail
  refine (concat_u32 A _ c parts w rfl HR.out HL.out).mono ?_
  rintro e w1 ⟨v, rfl, hv, hb⟩
  go_wp2
  go_ret
  exact ⟨v, rfl, hv, hb⟩
theorem isS_of {w0 w : World} {g : Nat} {ws : List Int} {s : Bool} (h : IsBox w0 w g 26 [] ws s) : IsS26 w0 w g ws s := by
  obtain ⟨A, c, h1, h2, _, h3⟩ := h
  exact ⟨A, c, h1, h2, h3⟩
theorem take_part (p r : List Int) : takeV (p ++ r) (p.length : Int) = p ∧ takeR (p ++ r) (p.length : Int) = r ∧ ∀ s, takeS (p ++ r) (p.length : Int) s = s := by
  unfold takeV takeR takeS
  by_cases h : (p.length : Int) ≤ 0
  · have : p = [] := List.length_eq_zero_iff.1 (by omega)
    subst this
    exact ⟨rfl, rfl, fun _ => rfl⟩
  · simp only [if_neg h]
    rw [if_neg (by rw [List.length_append]; omega), if_neg (by rw [List.length_append]; omega)]
    refine ⟨by simp, by simp, fun s => ?_⟩
    rw [if_neg (by rw [List.length_append]; omega)]
theorem flat_bound (parts : List (List Int)) (h : ∀ k, k < parts.length → (parts[k]?.getD []).length ≤ 100) : parts.flatten.length ≤ parts.length * 100 := by
  have key : ∀ k, k ≤ parts.length → (parts.take k).flatten.length ≤ k * 100 := by
    intro k
    induction k with
    | zero => intro _; simp
    | succ k ih =>
      intro hk
      rw [flat_succ_u32 parts k (by omega), List.length_append]
      have := ih (by omega)
      have := h k (by omega)
      omega
  have := key parts.length (Nat.le_refl _)
  rwa [List.take_length] at this
theorem opn_parts : Opn.Opn Try.prog 49 (Kd.slice 22 (Kd.slice 29 (Kd.int .u32))) (fun xs => xs.length ≤ maxLen ∧ ∀ x ∈ xs, (x.length ≤ maxLen ∧ ∀ y ∈ x, (Lit.int .u32 y).wf = true)) := Opn.opn_slice Try.underlying49 (by kernel_rfl) opn_words
set_option maxRecDepth 100000 in
set_option maxHeartbeats 2000000 in
theorem RawJoins_walk (W : World) (A : Option Addr) (n c : Nat) (parts : List (List Int)) (hK : (Kd.slice 22 (Kd.slice 29 (Kd.int .u32))).K W parts (Value.slice A n c).cells.toList) (_hV : parts.length ≤ maxLen ∧ ∀ x ∈ parts, (x.length ≤ maxLen ∧ ∀ y ∈ x, (Lit.int .u32 y).wf = true)) :
    Calls Try.prog 10 #[.slice A n c] W fun e w' => e = .returned (.bool true) ∧ Below W.heap.size W w' := by
  obtain ⟨A', c', he, hc, hr⟩ := hK
  simp only [Value.cells, List.cons.injEq, Value.slice.injEq, and_true] at he
  obtain ⟨rfl, rfl, rfl⟩ := he
  clear _hV
  have HR := Aside0.mk hr
  have HC := Aside0.mk hc
  have hmx := Kd.C_max hr
  clear hr hc
  by_cases hbig : 20 < parts.length
  · go_enter Try.func10, Try.ntmps10
    go_wp2_with (go_at_call 15; refine (wakes_calls _).mono ?_; rintro e w1 ⟨rfl, hb⟩; have HB := Aside0.mk hb; clear hb)
    go_ret
    exact ⟨rfl, HB.out⟩
  · have hdb : decide ((20 : Int) < (parts.length : Int)) = false := decide_eq_false (by omega)
    go_enter Try.func10, Try.ntmps10
    go_wp2_with fail
    refine (wakes_calls _).mono ?_
    rintro e w1 ⟨rfl, hb⟩
    have HB := Aside0.mk hb
    clear hb
    go_wp2
    go_loop [3, 16] (fun s i => ∃ k q : Nat, k ≤ parts.length ∧ i = .int .i64 k ∧ s = .int .i64 q ∧ Aside0 (q = (parts.take k).flatten.length) ∧ Aside0 (∀ j, j < k → (parts[j]?.getD []).length ≤ 100)) (fun _ i => parts.length - (intOf i).toNat)
    case atStart => exact ⟨0, 0, Nat.zero_le _, rfl, rfl, ⟨by simp⟩, ⟨fun j hj => by omega⟩⟩
    case round =>
      obtain ⟨k, q, hk, rfl, rfl, hq, hall⟩ := hrel
      by_cases hlt : k < parts.length
      · obtain ⟨ad, A1, c1, rfl, hcell, hc1, _⟩ := part_u32 (Kd.C_below HR.out HB.out) k hlt
        have hs := flat_succ_u32 parts k hlt
        have hb : q ≤ k * 100 := by
          have h1 := flat_bound (parts.take k) (fun j hj => by
            rw [List.length_take] at hj
            rw [List.getElem?_take_of_lt (by omega)]
            exact hall.out j (by omega))
          rw [← hq.out, List.length_take] at h1
          omega
        have hb2 : q ≤ 2000 := by omega
        have HS := Aside0.mk (show q + (parts[k]?.getD []).length = (parts.take (k + 1)).flatten.length by rw [hs, List.length_append, ← hq.out])
        have HP := Aside0.mk (fun (h : (parts[k]?.getD []).length ≤ 100) (j : Nat) (hj : j < k + 1) => show (parts[j]?.getD []).length ≤ 100 from by
          by_cases e : j = k
          · rw [e]; exact h
          · exact hall.out j (by omega))
        clear hs hq hb hall
        obtain ⟨m, hm⟩ : ∃ m, (parts[k]?.getD []).length = m := ⟨_, rfl⟩
        rw [hm] at hcell HS HP hc1
        have hmm : m ≤ 9223372036854775807 := by
          have h := Kd.C_max (Kd.C_below HR.out HB.out)
          obtain ⟨_, _, _, _, _, _, hh⟩ := part_u32 (Kd.C_below HR.out HB.out) k hlt
          rw [← hm]; exact Kd.C_max hh
        clear hm
        by_cases h100 : 100 < m
        · go_wp2
          go_ret
          exact ⟨rfl, HB.out⟩
        · go_wp2
          go_round
          case rel => exact ⟨k + 1, q + m, by omega, by go_num, by go_num, HS, ⟨HP.out (by omega)⟩⟩
          case measure => simp [intOf]; omega
      · obtain rfl : k = parts.length := by omega
        have hq2 := hq.out
        rw [List.take_length] at hq2
        have hfl := flat_bound parts (fun j hj => hall.out j hj)
        have hb2 : q ≤ 2000 := by omega
        have HQ := Aside0.mk hq2
        have HF := Aside0.mk (show parts.flatten.length ≤ 2000 by omega)
        clear hq hall hq2 hfl
        go_wp2_with fail
        refine (join_calls A _ c parts w1 rfl (Kd.C_below HR.out HB.out) (by have := HF.out; omega)).mono ?_
        rintro e w2 ⟨v, rfl, hv, hb⟩
        obtain ⟨Av, cv, rfl⟩ := Kd.R_slice hv
        obtain ⟨_, hcv, hrv⟩ := Kd.R_reads' hv
        have hI := isbox_new (T := 26) (w0 := w2) rfl hcv hrv rfl
        rw [← HQ.out] at hI ⊢
        have HI := Aside0.mk hI
        have HB2 := Aside0.mk (HB.out.trans (hb.mono HB.out.size))
        obtain ⟨Ax, cx, hx0, _⟩ := hI.cells (below_alloc (Below.refl _ _) _)
        rw [← HQ.out] at hx0
        clear hv hcv hrv hI hb
        have HZ := Aside0.mk (show Below w2.heap.size w2 (w2.alloc (.cells #[.slice Av q cv, .bool false] 26)) from below_alloc (Below.refl _ _) _)
        have hzz := HI.out.lt
        clear hx0
        have hx0 : (w2.alloc (.cells #[.slice Av q cv, .bool false] 26)).cell? ⟨w2.heap.size, 0, none⟩ = some (.slice Av q cv) := (blk_cell (blk_new _ _) 0).trans rfl
        go_wp2
        generalize hww : w2.alloc (.cells #[.slice Av q cv, .bool false] 26) = w3 at *
        clear hww hx0
        go_loopw [41] (fun i wr => ∃ k : Nat, k ≤ parts.length ∧ i = .int .i64 k ∧ Aside0 (IsBox w2 wr w2.heap.size 26 [] (parts.drop k).flatten false) ∧ Aside0 (Below w2.heap.size w2 wr)) (fun i _ => parts.length - (intOf i).toNat)
        case atStart => exact ⟨0, Nat.zero_le _, rfl, by simpa using HI, HZ⟩
        case round =>
          obtain ⟨k, hk, rfl, HI, HZ⟩ := hrel
          have HBW := Aside0.mk (HB2.out.trans (HZ.out.mono HB2.out.size))
          by_cases hlt : k < parts.length
          · obtain ⟨ad, A1, c1, rfl, hcellW, hc1, hread⟩ := part_u32 HR.out k hlt
            have hcell := pw_cell_below HBW.out hcellW
            obtain ⟨p, hp⟩ : ∃ p, parts[k]?.getD [] = p := ⟨_, rfl⟩
            have hd : (parts.drop k).flatten = p ++ (parts.drop (k + 1)).flatten := by
              rw [List.drop_eq_getElem_cons hlt, List.flatten_cons, ← hp, List.getElem?_eq_getElem hlt]
              rfl
            have hfl : p.length ≤ 2000 := by
              have h1 : parts.flatten = (parts.take k).flatten ++ (parts.drop k).flatten := by rw [← List.flatten_append, List.take_append_drop]
              have h2 := HF.out
              rw [h1, hd, List.length_append, List.length_append] at h2
              omega
            have hfl2 : (p ++ (parts.drop (k + 1)).flatten).length ≤ 2000 := by
              have h1 : parts.flatten = (parts.take k).flatten ++ (parts.drop k).flatten := by rw [← List.flatten_append, List.take_append_drop]
              have h2 := HF.out
              rw [h1, List.length_append] at h2
              rw [← hd]
              omega
            have hI := HI.out
            rw [hd] at hI
            rw [hp] at hcell hc1 hread
            have HI1 := Aside0.mk hI
            have HRD := Aside0.mk hread
            have HC1 := Aside0.mk hc1
            have HF2 := Aside0.mk hfl2
            clear hI hread hc1 hd hp HI hfl2 hcellW
            go_wp2_with fail
            refine (take_any _ [] _ _ _ (p.length : Int) w2 wr HI1.out HZ.out (by have := HF2.out; omega)).mono ?_
            rintro e w4 ⟨v, rfl, hv, hI4, hB4, _⟩
            obtain ⟨t1, t2, t3⟩ := take_part p (parts.drop (k + 1)).flatten
            rw [t1] at hv
            rw [t2, t3] at hI4
            obtain ⟨A4, c4, rfl⟩ := Kd.R_slice hv
            obtain ⟨_, hc4, hr4⟩ := Kd.R_reads' hv
            have HI4 := Aside0.mk hI4
            have HB4 := Aside0.mk hB4
            have HC4 := Aside0.mk hc4
            have HR4 := Aside0.mk hr4
            have HRD4 := Aside0.mk (Kd.C_below HRD.out (HB2.out.trans (hB4.mono HB2.out.size)))
            clear hv hI4 hB4 hc4 hr4 t1 t2 t3
            go_wp2_with fail
            refine (portholeref02_Same.calls 3000 A4 c4 p A1 c1 p true w4 HR4.out HC4.out HRD4.out HC1.out (same_refl 3000 _ (by omega) (by omega))).mono ?_
            rintro e w5 ⟨rfl, hd⟩
            obtain ⟨nd, rfl⟩ := hd.out
            clear hd
            go_wp2
            go_roundw
            case rel => exact ⟨k + 1, by omega, by go_num, ⟨HI4.out.below (pw_below_drewN (Below.refl _ _) _)⟩, ⟨pw_below_drewN HB4.out _⟩⟩
            case measure => simp [intOf]; omega
          · obtain rfl : k = parts.length := by omega
            have hI := HI.out
            rw [List.drop_length] at hI
            have HS := Aside0.mk (isS_of hI)
            clear hI HI
            go_wp2_with fail
            refine (raw_Box_Done.calls w2.heap.size [] false true false w2 wr HS.out HZ.out rfl).mono ?_
            rintro e w5 ⟨rfl, _, hB5, _⟩
            have HB5 := Aside0.mk hB5
            clear hB5
            go_wp2
            go_ret
            exact ⟨rfl, HB2.out.trans (HB5.out.mono HB2.out.size)⟩
end Go.Proofs.Ytndmdlnmjamgkaa.Box
