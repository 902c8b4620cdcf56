import Derived.Test.YtndmdlnmjamgkaaRawFitsLaw
import Derived.LoopTactic
import Derived.OpenShut
import Derived.Test.YtndmdlnmjamgkaaOpn
/- RawOnes: so many words at once are those that come one by one. -/
namespace Go.Proofs.Ytndmdlnmjamgkaa.Box
open Go.RowKit Go.Proofs.YtndmdlnmjamgkaaW.PrintWords Go.Proofs.YtndmdlnmjamgkaaW.PrintMore Go.Proofs.Ytndmdlnmjamgkaa.PR
theorem R_keep_elder {α : Type} {d : Kd α} {e : Nat} {w w1 : World} {base : Nat} {ok : Nat → Prop} {v : Value} {xs : List α} (h : Kd.R d e w base ok v xs) {g : Nat} (hk : KeepBut w w1 g none) (hg : g < base) : Kd.R d e w1 base ok v xs :=
  Kd.R_mono (Kd.R_keep (Kd.R_bound h) hk (fun k hk => by have := hk.2.1; omega)) (fun _ hk => hk.1)
theorem IsBox.keep {w0 w w1 : World} {g g' T : Nat} {rest : List Value} {ws : List Int} {s : Bool} (hI : IsBox w0 w g T rest ws s) (hk : KeepBut w w1 g' none) (hne : g ≠ g') : IsBox w0 w1 g T rest ws s := by
  obtain ⟨A, c, hg, h⟩ := hI
  exact ⟨A, c, hk.blk hg hne (by simp), h⟩
theorem same_refl (k : Nat) (l : List Int) (h : l.length ≤ 1152921504606846976) (hk : l.length < k) : portholeref02_Same.f k l l = some true := by
  unfold portholeref02_Same.f
  rw [if_pos rfl]
  have key : ∀ (m k j : Nat), l.length - j = m → m < k → portholeref02_Same.l0 k l l (j : Int) = some true := by
    intro m
    induction m with
    | zero =>
      intro k j hm hk
      obtain ⟨k, rfl⟩ : ∃ q, k = q + 1 := ⟨k - 1, by omega⟩
      simp only [portholeref02_Same.l0]
      rw [if_neg (by omega)]
    | succ m ih =>
      intro k j hm hk
      obtain ⟨k, rfl⟩ : ∃ q, k = q + 1 := ⟨k - 1, by omega⟩
      simp only [portholeref02_Same.l0]
      rw [if_pos (by omega), if_pos (by omega), if_pos (by omega), show wrap64 ((j : Int) + 1) = ((j + 1 : Nat) : Int) from by unfold wrap64; omega]
      simp only [if_true]
      exact ih k (j + 1) (by omega) (by omega)
  exact key l.length k 0 (by omega) hk
theorem opn_words : Opn.Opn Try.prog 22 (Kd.slice 29 (Kd.int .u32)) (fun xs => xs.length ≤ maxLen ∧ ∀ x ∈ xs, (Lit.int .u32 x).wf = true) := Opn.opn_slice Try.underlying22 (by kernel_rfl) (Opn.opn_int Try.underlying29)
set_option maxRecDepth 100000 in
set_option maxHeartbeats 2000000 in
theorem RawOnes_walk (W : World) (A : Option Addr) (n c : Nat) (ws : List Int) (hK : (Kd.slice 29 (Kd.int .u32)).K W ws (Value.slice A n c).cells.toList) (_hV : ws.length ≤ maxLen ∧ ∀ x ∈ ws, (Lit.int .u32 x).wf = true) (m : Int) (hm : (Lit.int .u8 m).wf = true) :
    Calls Try.prog 3 #[.slice A n c, .int .u8 m] W fun e w' => e = .returned (.bool true) ∧ Below W.heap.size W w' := by
  obtain ⟨A', c', he, hc, hr⟩ := hK
  simp only [Value.cells, List.cons.injEq, Value.slice.injEq, and_true] at he
  obtain ⟨rfl, rfl, rfl⟩ := he
  clear _hV
  have hm0 : 0 ≤ m ∧ m ≤ 255 := bounds_u8 hm
  clear hm
  have HR := Aside0.mk hr
  have HC := Aside0.mk hc
  have hmx := Kd.C_max hr
  clear hr hc
  by_cases hbig : 300 < ws.length
  · go_enter Try.func3, Try.ntmps3
    go_wp2_with (go_at_call 15; refine (wakes_calls _).mono ?_; rintro e w1 ⟨rfl, hb⟩; have HB := Aside0.mk hb; clear hb)
    go_ret
    exact ⟨rfl, HB.out⟩
  · have hdb : decide ((300 : Int) < (ws.length : Int)) = false := decide_eq_false (by omega)
    go_enter Try.func3, Try.ntmps3
    go_wp2_with fail
    refine (wakes_calls _).mono ?_
    rintro e w1 ⟨rfl, hb⟩
    have HB := Aside0.mk hb
    clear hb
    go_wp2_with fail
    -- the two boxes
    have hr1 := Kd.C_below HR.out HB.out
    have hIa := (isbox_new (T := 26) rfl HC.out hr1 rfl).below (below_alloc (Below.refl _ _) (.cells #[.slice A ws.length c, .bool false] 26))
    have hIb : IsBox w1 ((w1.alloc (.cells #[.slice A ws.length c, .bool false] 26)).alloc (.cells #[.slice A ws.length c, .bool false] 26)) (w1.heap.size + 1) 26 [] ws false := by
      refine ⟨A, c, ?_, by omega, HC.out, hr1⟩
      have := blk_new (w1.alloc (.cells #[.slice A ws.length c, .bool false] 26)) (.cells #[.slice A ws.length c, .bool false] 26)
      rwa [World.size_alloc] at this
    have hB2 := below_alloc (below_alloc (Below.refl w1.heap.size w1) (.cells #[.slice A ws.length c, .bool false] 26)) (.cells #[.slice A ws.length c, .bool false] 26)
    have hwz := hIb.lt
    generalize (w1.alloc (.cells #[.slice A ws.length c, .bool false] 26)).alloc (.cells #[.slice A ws.length c, .bool false] 26) = w2 at *
    refine (take_any _ [] _ _ _ m w1 w2 hIa hB2 (by omega)).mono ?_
    rintro e w3 ⟨v, rfl, hv, hIa3, hB3, hk3⟩
    have hIb3 := hIb.keep hk3 (by omega)
    clear hIa hIb hB2 hk3 hr1
    have hBB := HB.out.trans (hB3.mono HB.out.size)
    obtain ⟨Aa, ca, hxa0, hxa1, hca, hra⟩ := hIa3.cells hB3
    obtain ⟨A1, c1, rfl⟩ := Kd.R_slice hv
    by_cases hgt : m > (ws.length : Int)
    · -- too few
      rw [show takeV ws m = [] from by unfold takeV; rw [if_neg (by omega), if_pos hgt]] at hv
      have e1 : takeR ws m = ws := by unfold takeR; rw [if_neg (by omega), if_pos hgt]
      have e2 : takeS ws m false = true := by unfold takeS; rw [if_neg (by omega), if_pos hgt]
      have e3 : takeV ws m = [] := by unfold takeV; rw [if_neg (by omega), if_pos hgt]
      rw [e1] at hxa0 hca hra
      rw [e2] at hxa1
      rw [e3]
      have HRA := Aside0.mk hra
      have HRW := Aside0.mk (Kd.C_below HR.out hBB)
      have HCA := Aside0.mk hca
      have HBB := Aside0.mk hBB
      clear hv hIa3 hIb3 hB3 hra hca hBB e1 e2 e3 hwz
      go_wp2_with fail
      refine (portholeref02_Same.calls 1000 Aa ca ws A c ws true w3 HRA.out HCA.out HRW.out HC.out (same_refl 1000 ws (by omega) (by omega))).mono ?_
      rintro e w4 ⟨rfl, hd⟩
      have HD := Aside0.mk (below_drawn0 HBB.out hd)
      clear hd
      go_wp2
      go_ret
      exact ⟨rfl, HD.out⟩
    · obtain ⟨q, rfl⟩ := Int.eq_ofNat_of_zero_le hm0.1
      have hq : q ≤ ws.length := by omega
      have e1 : takeR ws (q : Int) = ws.drop q := by
        unfold takeR
        by_cases h0 : (q : Int) ≤ 0
        · rw [if_pos h0, show q = 0 from by omega]; rfl
        · rw [if_neg h0, if_neg hgt, Int.toNat_natCast]
      have e2 : takeS ws (q : Int) false = false := by unfold takeS; split <;> (try split) <;> first | rfl | omega
      have e3 : takeV ws (q : Int) = ws.take q := by
        unfold takeV
        by_cases h0 : (q : Int) ≤ 0
        · rw [if_pos h0, show q = 0 from by omega]; rfl
        · rw [if_neg h0, if_neg hgt, Int.toNat_natCast]
      have e4 : (ws.take q).length = q := by rw [List.length_take]; omega
      rw [e3, e4] at hv ⊢
      rw [e1, e2] at hIa3
      have HV := Aside0.mk hv
      have HIa := Aside0.mk hIa3
      have HIb := Aside0.mk hIb3
      have HB3 := Aside0.mk hB3
      have HZ := Aside0.mk hwz
      have H4 := Aside0.mk e4
      clear hv hIa3 hIb3 hB3 hwz hra hca hxa0 hxa1 hBB e1 e2 e3 e4
      have hdq : decide (ws.length < q) = false := decide_eq_false (by omega)
      go_wp2
      go_loopw [54] (fun i wr => ∃ k : Nat, k ≤ q ∧ i = .int .i64 k ∧ Aside0 (Kd.R (Kd.int .u32) 29 wr w2.heap.size (fun _ => True) (.slice A1 q c1) (ws.take q)) ∧ Aside0 (IsBox w1 wr (w1.heap.size + 1) 26 [] (ws.drop k) false) ∧
          Aside0 (IsBox w1 wr w1.heap.size 26 [] (ws.drop q) false) ∧ Aside0 (Below w1.heap.size w1 wr)) (fun i _ => q - (intOf i).toNat)
      case atStart => exact ⟨0, Nat.zero_le _, rfl, HV, HIb, HIa, HB3⟩
      case round =>
        obtain ⟨k, hk, rfl, HV, HIb, HIa, HB3⟩ := hrel
        by_cases hlt : k < q
        · obtain ⟨x, hx⟩ : ∃ x, ws[k]? = some x := ⟨_, List.getElem?_eq_getElem (by omega)⟩
          have hd : ws.drop k = x :: ws.drop (k + 1) := by
            rw [List.drop_eq_getElem_cons (by omega)]
            congr 1
            exact Option.some.inj ((List.getElem?_eq_getElem (by omega)).symm.trans hx)
          have hrl := (Kd.R_reads' HV.out).2.2
          obtain ⟨ad, rfl, hcell⟩ := Kd.at_int hrl (k : Int) (by omega) (by rw [H4.out]; omega)
          have hcell' : wr.cell? (ad.add k) = some (.int .u32 x) := by
            rw [Int.toNat_natCast] at hcell
            rw [hcell]
            unfold rd
            rw [Int.toNat_natCast, List.getD_eq_getElem?_getD, List.getElem?_take_of_lt hlt, hx]
            rfl
          have hIb' := HIb.out
          rw [hd] at hIb'
          have HIb' := Aside0.mk hIb'
          clear hcell hrl hd hx hIb' HIb
          go_wp2_with fail
          refine (next_cons _ [] _ x (ws.drop (k + 1)) false w1 wr HIb'.out HB3.out).mono ?_
          rintro e w4 ⟨rfl, hI4, hB4, hk4⟩
          have HV4 := Aside0.mk (R_keep_elder HV.out hk4 HZ.out)
          have HIa4 := Aside0.mk (HIa.out.keep hk4 (by omega))
          have HIb4 := Aside0.mk hI4
          have HB4 := Aside0.mk hB4
          clear hI4 hB4 hk4 HV HIa HIb' HB3 hcell'
          go_wp2
          go_roundw
          case rel => exact ⟨k + 1, by omega, by go_num, HV4, HIb4, HIa4, HB4⟩
          case measure => simp [intOf]; omega
        · obtain rfl : k = q := by omega
          have hlr : (ws.drop k).length ≤ 300 := by rw [List.length_drop]; omega
          generalize ws.drop k = r at HIa HIb hlr
          obtain ⟨Aa, ca, hxa0, hxa1, hca, hra⟩ := HIa.out.cells HB3.out
          obtain ⟨Ab, cb, hxb0, hxb1, hcb, hrb⟩ := HIb.out.cells HB3.out
          have HRA := Aside0.mk hra
          have HRB := Aside0.mk hrb
          have HCA := Aside0.mk hca
          have HCB := Aside0.mk hcb
          clear hra hrb hca hcb HIa HIb HV
          go_wp2
          go_quiet ((go_at_call 17; exact Calls.quiet_of ((portholeref02_Same.calls 1000 Aa ca r Ab cb r true _ (Kd.C_drewN HRA.out _) HCA.out (Kd.C_drewN HRB.out _) HCB.out (same_refl 1000 _ (by omega) (by omega))).mono (fun e w h => ⟨h.1, h.2.out⟩))))
          go_wp2
          go_ret
          exact ⟨rfl, pw_below_drewN (HB.out.trans (HB3.out.mono HB.out.size)) _⟩
end Go.Proofs.Ytndmdlnmjamgkaa.Box
