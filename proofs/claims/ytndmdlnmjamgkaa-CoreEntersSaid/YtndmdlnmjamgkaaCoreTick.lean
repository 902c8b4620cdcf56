import Derived.Test.YtndmdlnmjamgkaaCoreWho
/- Package core: Tick; portholeref15: Who, Entered; in plain words. Written by wip/coretick.py. -/
namespace Go.Proofs.Ytndmdlnmjamgkaa.Core
open Go.RowKit Go.Proofs.YtndmdlnmjamgkaaW.PrintWords Go.Proofs.YtndmdlnmjamgkaaW.PrintLast Go.Proofs.YtndmdlnmjamgkaaW.PrintMore Go.Proofs.Ytndmdlnmjamgkaa.PF Go.Proofs.Ytndmdlnmjamgkaa.Frame Go.Proofs.Ytndmdlnmjamgkaa.Box
set_option linter.unusedSimpArgs false
set_option linter.unusedVariables false
theorem fx0 (l0 l1 : Int) (A2 A3 : Option Addr) (n2 c2 n3 c3 : Nat) (w : World) : Sem.run Try.prog (Instr.index 59 (.agg #[.int .i64 l0, .slice A2 n2 c2, .int .i64 l1, .slice A3 n3 c3]) (.int .i64 0)) w = .ok (.agg #[.int .i64 l0, .slice A2 n2 c2]) w := rfl
theorem fx1 (l0 l1 : Int) (A2 A3 : Option Addr) (n2 c2 n3 c3 : Nat) (w : World) : Sem.run Try.prog (Instr.index 59 (.agg #[.int .i64 l0, .slice A2 n2 c2, .int .i64 l1, .slice A3 n3 c3]) (.int .i64 1)) w = .ok (.agg #[.int .i64 l1, .slice A3 n3 c3]) w := rfl
attribute [local go_sem] fx0 fx1
theorem info_int : (Try.prog.info? 3).map (fun i => (i.zero, i.size, i.bytes)) = some (some (.int .i64 0), (Kd.int .i64).sz, 8) := by kernel_rfl
theorem R_by {α β : Type} {d : Kd α} {d' : Kd β} {e e' b b' : Nat} {ok ok' : Nat → Prop} {W W1 : World} {v u : Value} {xs : List α} {ys : List β} (h : Kd.R d e W b ok v xs) (h' : Kd.R d' e' W b' ok' u ys) (hne : ∀ q, q ∈ e :: d.E → q ≠ e') (hg : W.grownBy W1 u.ownBlock) : Kd.R d e W1 b ok v xs := by
  cases hu : u.ownBlock with
  | none =>
    rw [hu] at hg
    exact Kd.R_grown h hg (fun _ _ => by simp)
  | some g =>
    rw [hu] at hg
    obtain ⟨inner, ho⟩ := Kd.R_own h'
    obtain ⟨cells, hc⟩ := own_typed ho g hu
    exact Kd.R_mono (Kd.R_grown (Kd.R_types h hc hne) hg (fun k hk => by simp; exact hk.2)) (fun _ hk => hk.1)
/-- Who has been entered of the first i cores. -/
def entP (f : Fr) (now : Int) : Nat → List Int
  | 0 => []
  | 1 => if (En f.l0 f.ws0 now).2 = true then [(En f.l0 f.ws0 now).1] else []
  | _ => entV f now
theorem one_le (b : Prop) [Decidable b] (x : Int) : (if b then [x] else []).length ≤ 1 := by split <;> simp
theorem entV_le (f : Fr) (now : Int) : (entV f now).length ≤ 2 := by
  unfold entV
  rw [List.length_append]
  have h1 := one_le ((En f.l0 f.ws0 now).2 = true) (En f.l0 f.ws0 now).1
  have h2 := one_le ((En f.l1 f.ws1 now).2 = true) (En f.l1 f.ws1 now).1
  omega
theorem entP_le (f : Fr) (now : Int) (i : Nat) : (entP f now i).length ≤ 2 := by
  match i with
  | 0 => exact Nat.zero_le _
  | 1 => exact Nat.le_trans (one_le _ _) (by decide)
  | i + 2 => exact entV_le f now
set_option maxRecDepth 20000 in
set_option maxHeartbeats 4000000 in
theorem tick_calls {w W : World} {g x : Nat} {f : Fr} {now : Int} (h : IsCk w W g f now x) (hn : 0 ≤ now ∧ now ≤ 1000000) : Calls Try.prog 42 #[.pointer (some ⟨g, 0, none⟩)] W fun e w' => ∃ A n c, e = .returned (.slice A n c) ∧ Kd.R (Kd.int .i64) 3 w' W.heap.size (fun j => W.heap.size ≤ j) (.slice A n c) (entV f (now + 1)) ∧ IsCk w w' g f (now + 1) x ∧ KeepBut W w' g none ∧ Below w.heap.size w w' := by
  have hlt := h.lt
  have hset := h.set (now + 1)
  have hge := h.ge
  have hbw := h.bel
  obtain ⟨A2, c2, A3, c3, h1, _, _⟩ := h.all
  have hc4 : W.cell? ⟨g, 4, none⟩ = some (.int .i64 now) := (blk_cell h1 4).trans rfl
  have hf4 := blk_frozen h1 4
  obtain ⟨hn0, hn1⟩ := hn
  have HI := Aside0.mk hset
  have HK := Aside0.mk ((KeepBut.refl W g none).set_ 4 (.int .i64 (now + 1)))
  have hs1 : (W.setCell ⟨g, 4, none⟩ (.int .i64 (now + 1))).heap.size = W.heap.size := by simp
  have HS := Aside0.mk hs1
  clear hset h1 h hs1
  obtain ⟨B2, d2, B3, d3, h1, h2, h3⟩ := HI.out.all
  have r2 := Kd.R_reads' h2
  have r3 := Kd.R_reads' h3
  have HC2 := Aside0.mk (fun (X : World) (h : Kd.C k46 X B2 f.ws0.length f.ws0) => en_calls f.l0 B2 d2 f.ws0 (now + 1) X r2.2.1 h)
  have HC3 := Aside0.mk (fun (X : World) (h : Kd.C k46 X B3 f.ws1.length f.ws1) => en_calls f.l1 B3 d3 f.ws1 (now + 1) X r3.2.1 h)
  have HR2 := Aside0.mk r2.2.2
  have HR3 := Aside0.mk r3.2.2
  have HG := Aside0.mk h1
  have HW2 := Aside0.mk h2
  have HW3 := Aside0.mk h3
  clear h2 h3 r2 r3 h1
  obtain ⟨n2, hn2⟩ : ∃ n, f.ws0.length = n := ⟨_, rfl⟩
  obtain ⟨n3, hn3⟩ : ∃ n, f.ws1.length = n := ⟨_, rfl⟩
  obtain ⟨l0, hl0⟩ : ∃ n, f.l0 = n := ⟨_, rfl⟩
  obtain ⟨l1, hl1⟩ : ∃ n, f.l1 = n := ⟨_, rfl⟩
  rw [hn2, hn3, hl0, hl1] at HG
  rw [hn2, hl0] at HC2
  rw [hn3, hl1] at HC3
  rw [hn2] at HR2 HW2
  rw [hn3] at HR3 HW3
  have HE := Aside0.mk (And.intro hl0 hl1)
  have HLN := Aside0.mk (And.intro hn2 hn3)
  have HBW := Aside0.mk hbw
  clear hn2 hn3 hl0 hl1 hbw
  have hu := Try.underlying32
  go_enter Try.func42, Try.ntmps42
  go_upto_region 2 with fail
  generalize W.setCell ⟨g, 4, none⟩ (.int .i64 (now + 1)) = w1 at *
  clear hc4 hf4
  have hc0 : w1.cell? ⟨g, 0, none⟩ = some (.int .i64 l0) := (blk_cell HG.out 0).trans rfl
  have hc1 : w1.cell? ⟨g, 1, none⟩ = some (.slice B2 n2 d2) := (blk_cell HG.out 1).trans rfl
  have hc2 : w1.cell? ⟨g, 2, none⟩ = some (.int .i64 l1) := (blk_cell HG.out 2).trans rfl
  have hc3 : w1.cell? ⟨g, 3, none⟩ = some (.slice B3 n3 d3) := (blk_cell HG.out 3).trans rfl
  go_wp2_with fail
  obtain ⟨_, hg5, hb5⟩ := HI.out
  go_loopw [3, 19] (fun v3 v19 wr => ∃ (i : Nat) (Av : Option Addr) (nv cv : Nat), i ≤ 2 ∧ v3 = .slice Av nv cv ∧ v19 = .int .i64 i ∧ Aside0 (Kd.R (Kd.int .i64) 3 wr W.heap.size (fun j => W.heap.size ≤ j) (.slice Av nv cv) (entP f (now + 1) i)) ∧ Aside0 (wr.heap[g]? = some (.cells #[.int .i64 l0, .slice B2 n2 d2, .int .i64 l1, .slice B3 n3 d3, .int .i64 (now + 1)] 81 (0, 0))) ∧ Aside0 (Kd.R k46 46 wr w.heap.size (fun j => j ≠ g ∧ j ≠ x) (.slice B2 n2 d2) f.ws0) ∧ Aside0 (Kd.R k46 46 wr w.heap.size (fun j => j ≠ g ∧ j ≠ x) (.slice B3 n3 d3) f.ws1) ∧ Aside0 (Below w.heap.size w wr) ∧ Aside0 (KeepBut W wr g none)) (fun _ v _ => 2 - (intOf v).toNat)
  case atStart => exact ⟨0, none, 0, 0, by omega, rfl, rfl, ⟨Kd.R_nil _ _ _ _ _⟩, HG, HW2, HW3, ⟨hb5⟩, HK⟩
  case round =>
    clear HG HW2 HW3 HK HR2 HR3 hc0 hc1 hc2 hc3
    obtain ⟨i, Av, nv, cv, hi, rfl, rfl, HO, HG, HR2, HR3, HB, HK⟩ := hrel
    match i, hi with
    | 0, _ =>
      have hsz := HK.out.1
      have hba := below_alloc (Below.refl _ wr) (.cells #[.int .i64 l0, .slice B2 n2 d2] 40)
      have HF := Aside0.mk (blk_new wr (.cells #[.int .i64 l0, .slice B2 n2 d2] 40))
      have HGa := Aside0.mk (blk_below HG.out hba)
      have HR2a := Aside0.mk (Kd.R_below HR2.out hba)
      have HR3a := Aside0.mk (Kd.R_below HR3.out hba)
      have HOa := Aside0.mk (Kd.R_below HO.out hba)
      have HBa := Aside0.mk (HB.out.trans (hba.mono HB.out.size))
      have HKa := Aside0.mk (HK.out.trans (KeepBut.of_below hba g none) (.inl rfl))
      clear HG HR2 HR3 HO HB HK
      go_upto_region 6 with fail
      generalize wr.alloc (.cells #[.int .i64 l0, .slice B2 n2 d2] 40) = wa at *
      have hx0 : wa.cell? ⟨wr.heap.size, 0, none⟩ = some (.int .i64 l0) := (blk_cell HF.out 0).trans rfl
      have hx1 : wa.cell? ⟨wr.heap.size, 1, none⟩ = some (.slice B2 n2 d2) := (blk_cell HF.out 1).trans rfl
      have hx4 : wa.cell? ⟨g, 4, none⟩ = some (.int .i64 (now + 1)) := (blk_cell HGa.out 4).trans rfl
      generalize hen : En l0 f.ws0 (now + 1) = r at *
      have HEN := Aside0.mk hen
      clear hen
      refine start_ (n := 11) (S := fun w' => w'.cell? ⟨wr.heap.size, 0, none⟩ = some (.int .i64 l0) ∧ w'.cell? ⟨wr.heap.size, 1, none⟩ = some (.slice B2 n2 d2) ∧ w'.cell? ⟨g, 4, none⟩ = some (.int .i64 (now + 1))) (ds := []) #[false, false, false, false, false, false, false, false, false, false, false] (by kernel_rfl) rfl rfl ⟨hx0, hx1, hx4⟩ (fun hHeld => ?_)
      refine pure_ (i := 1) (N := some 24) (v := ?_) (a' := ?_) #[false, true, false, false, false, false, false, false, false, false, false] rfl rfl (by kernel_rfl) (fun _ _ _ h => h) (Or.inl ⟨by rfl, ?_⟩) ?_ ?_
      rotate_left
      · intro w'
        go_simp
        with_reducible rfl
      rotate_left
      · simp only [Act.put, List.setIfInBounds_toArray, List.set_cons_zero, List.set_cons_succ, i64_w, i32_w]
        rfl
      refine pure_ (i := 2) (N := some 25) (v := ?_) (a' := ?_) #[false, true, true, false, false, false, false, false, false, false, false] rfl rfl (by kernel_rfl) (fun _ _ _ h => h) (Or.inl ⟨by rfl, ?_⟩) ?_ ?_
      rotate_left
      · intro w'
        go_simp
        with_reducible rfl
      rotate_left
      · simp only [Act.put, List.setIfInBounds_toArray, List.set_cons_zero, List.set_cons_succ, i64_w, i32_w]
        rfl
      refine pure_ (i := 3) (N := some 26) (v := ?_) (a' := ?_) #[false, true, true, true, false, false, false, false, false, false, false] rfl rfl (by kernel_rfl) (fun _ _ _ h => h) (Or.inl ⟨by rfl, ?_⟩) ?_ ?_
      rotate_left
      · intro w'
        go_simp
        with_reducible rfl
      rotate_left
      · simp only [Act.put, List.setIfInBounds_toArray, List.set_cons_zero, List.set_cons_succ, i64_w, i32_w]
        rfl
      refine take_ (i := 0) (N := some 23) (v := ?_) (a' := ?_) #[true, true, true, true, false, false, false, false, false, false, false] rfl rfl (by kernel_rfl) (fun _ _ _ h => h) (Or.inl ⟨by rfl, ?_⟩) hHeld ?_ ?_
      rotate_left
      · rintro w' ⟨s0, s1, s2⟩
        go_simp
        with_reducible rfl
      rotate_left
      · simp only [Act.put, List.setIfInBounds_toArray, List.set_cons_zero, List.set_cons_succ, i64_w, i32_w]
        rfl
      refine take_ (i := 4) (N := some 27) (v := ?_) (a' := ?_) #[true, true, true, true, true, false, false, false, false, false, false] rfl rfl (by kernel_rfl) (fun _ _ _ h => h) (Or.inl ⟨by rfl, ?_⟩) hHeld ?_ ?_
      rotate_left
      · rintro w' ⟨s0, s1, s2⟩
        go_simp
        with_reducible rfl
      rotate_left
      · simp only [Act.put, List.setIfInBounds_toArray, List.set_cons_zero, List.set_cons_succ, i64_w, i32_w]
        rfl
      refine one_ (i := 5) (N := some 28) #[true, true, true, true, true, true, false, false, false, false, false] rfl rfl (by kernel_rfl) (by decide) (fun K hK => ?_)
      refine goes_ Try.func27 (by kernel_rfl) rfl #[.agg #[.int .i64 l0, .slice B2 n2 d2], .int .i64 (now + 1)] (by rfl) rfl rfl (by simp only [List.map_toArray, List.map_cons, List.map_nil]; rfl) ?_
      with_reducible refine (HC2.out _ (Kd.C_below (by have h := (Kd.R_reads' HR2a.out).2.2; rw [HLN.out.1] at h; exact h) (below_drew1 (Below.refl _ _)))).mono ?_
      rintro e w3 ⟨rfl, h1⟩
      refine ⟨_, rfl, ?_⟩
      have HBB := Aside0.mk ((below_drew1 (Below.refl wa.heap.size wa)).trans (h1.mono (Nat.le_refl _)))
      clear h1
      refine hK.out _ _ ⟨pw_cell_below HBB.out hx0, pw_cell_below HBB.out hx1, pw_cell_below HBB.out hx4⟩ (fun hHeld => ?_)
      clear hK K
      refine norm_ (a' := ?_) ?_ ?_
      rotate_left
      · show Act.put _ (some 28) _ = _
        simp only [Act.put, List.setIfInBounds_toArray, List.set_cons_zero, List.set_cons_succ, i64_w, i32_w]
        rfl
      refine pure_ (i := 6) (N := some 22) (v := ?_) (a' := ?_) #[true, true, true, true, true, true, true, false, false, false, false] rfl rfl (by kernel_rfl) (fun _ _ _ h => h) (Or.inl ⟨by rfl, ?_⟩) ?_ ?_
      rotate_left
      · intro w'
        go_simp
        with_reducible rfl
      rotate_left
      · simp only [Act.put, List.setIfInBounds_toArray, List.set_cons_zero, List.set_cons_succ, i64_w, i32_w]
        rfl
      refine pure_ (i := 7) (N := some 29) (v := ?_) (a' := ?_) #[true, true, true, true, true, true, true, true, false, false, false] rfl rfl (by kernel_rfl) (fun _ _ _ h => h) (Or.inl ⟨by rfl, ?_⟩) ?_ ?_
      rotate_left
      · intro w'
        go_simp
        with_reducible rfl
      rotate_left
      · simp only [Act.put, List.setIfInBounds_toArray, List.set_cons_zero, List.set_cons_succ, i64_w, i32_w]
        rfl
      refine pure_ (i := 8) (N := some 30) (v := ?_) (a' := ?_) #[true, true, true, true, true, true, true, true, true, false, false] rfl rfl (by kernel_rfl) (fun _ _ _ h => h) (Or.inl ⟨by rfl, ?_⟩) ?_ ?_
      rotate_left
      · intro w'
        go_simp
        with_reducible rfl
      rotate_left
      · simp only [Act.put, List.setIfInBounds_toArray, List.set_cons_zero, List.set_cons_succ, i64_w, i32_w]
        rfl
      refine pure_ (i := 9) (N := some 6) (v := ?_) (a' := ?_) #[true, true, true, true, true, true, true, true, true, true, false] rfl rfl (by kernel_rfl) (fun _ _ _ h => h) (Or.inl ⟨by rfl, ?_⟩) ?_ ?_
      rotate_left
      · intro w'
        go_simp
        with_reducible rfl
      rotate_left
      · simp only [Act.put, List.setIfInBounds_toArray, List.set_cons_zero, List.set_cons_succ, i64_w, i32_w]
        rfl
      refine pure_ (i := 10) (N := some 7) (v := ?_) (a' := ?_) #[true, true, true, true, true, true, true, true, true, true, true] rfl rfl (by kernel_rfl) (fun _ _ _ h => h) (Or.inl ⟨by rfl, ?_⟩) ?_ ?_
      rotate_left
      · intro w'
        go_simp
        with_reducible rfl
      rotate_left
      · simp only [Act.put, List.setIfInBounds_toArray, List.set_cons_zero, List.set_cons_succ, i64_w, i32_w]
        rfl
      refine done_ (by kernel_rfl) ?_
      have HG4 := Aside0.mk (blk_below HGa.out HBB.out)
      have HR24 := Aside0.mk (Kd.R_below HR2a.out HBB.out)
      have HR34 := Aside0.mk (Kd.R_below HR3a.out HBB.out)
      have HO4 := Aside0.mk (Kd.R_below HOa.out HBB.out)
      have HB4 := Aside0.mk (HBa.out.trans (HBB.out.mono HBa.out.size))
      have HK4 := Aside0.mk (HKa.out.trans (KeepBut.of_below HBB.out g none) (.inl rfl))
      clear HF HGa HR2a HR3a HOa HBa HKa HBB hx0 hx1 hx4 hba
      obtain ⟨rp, rb⟩ := r
      cases rb with
      | false =>
        have HEQ : Aside0 (entP f (now + 1) 1 = entP f (now + 1) 0) := ⟨by show (if (En f.l0 f.ws0 (now + 1)).2 = true then [(En f.l0 f.ws0 (now + 1)).1] else []) = []; rw [HE.out.1, HEN.out]; rfl⟩
        go_wp2
        go_roundw
        case rel => exact ⟨1, Av, nv, cv, by omega, rfl, by go_num, ⟨by rw [HEQ.out]; exact HO4.out⟩, HG4, HR24, HR34, HB4, HK4⟩
        case measure => simp [intOf]
      | true =>
        have HEQ : Aside0 (entP f (now + 1) 1 = entP f (now + 1) 0 ++ [rp]) := ⟨by show (if (En f.l0 f.ws0 (now + 1)).2 = true then [(En f.l0 f.ws0 (now + 1)).1] else []) = [] ++ [rp]; rw [HE.out.1, HEN.out]; rfl⟩
        have hln := entP_le f (now + 1) 0
        go_wp2_with (at_builtin; refine Kd.R_append (Kd.int .i64) (w0 := w3) W.heap.size rfl (.tmp 32) (.tmp 34) 32 3 (.int .i64 0) 8 rfl hu info_int rfl (by decide) (by omega) _ (entP f (now + 1) 0) rp [.int .i64 rp] (fun j => W.heap.size ≤ j) (fun _ => False) rfl rfl ?aP (fun _ h => h.elim) ?aF ?aO ?aB ?aS ?aL ?_)
        case aP => exact rfl
        case aF => exact fun k hk => Nat.le_trans HK4.out.1 hk
        case aO => exact HO4.out
        case aB => exact Below.refl _ _
        case aS => exact HK4.out.1
        case aL => omega
        intro v1 w6 ho hb hg hat
        obtain ⟨A6, n6, c6, rfl⟩ : ∃ A n c, v1 = .slice A n c := by
          obtain ⟨A, c, h⟩ := Kd.R_slice ho
          exact ⟨A, _, c, h⟩
        have HO6 : Aside0 (Kd.R (Kd.int .i64) 3 w6 W.heap.size (fun j => W.heap.size ≤ j) (.slice A6 n6 c6) (entP f (now + 1) 1)) := ⟨by rw [HEQ.out]; exact ho⟩
        have HG6 := Aside0.mk ((hb.block g hlt).trans HG4.out)
        have HR26 := Aside0.mk (R_by HR24.out HO4.out (by decide) hg)
        have HR36 := Aside0.mk (R_by HR34.out HO4.out (by decide) hg)
        have HB6 := Aside0.mk (HB4.out.trans (hb.mono HBW.out.size))
        have HK6 : Aside0 (KeepBut W w6 g none) := ⟨⟨by have a := HK4.out.1; have b := hb.size; omega, fun k hk q1 q2 => (hb.block k hk).trans (HK4.out.2 k hk q1 q2)⟩⟩
        clear ho hb hg hat
        go_wp2
        go_roundw
        case rel => exact ⟨1, A6, n6, c6, by omega, rfl, by go_num, HO6, HG6, HR26, HR36, HB6, HK6⟩
        case measure => simp [intOf]
    | 1, _ =>
      have hsz := HK.out.1
      have hba := below_alloc (Below.refl _ wr) (.cells #[.int .i64 l1, .slice B3 n3 d3] 40)
      have HF := Aside0.mk (blk_new wr (.cells #[.int .i64 l1, .slice B3 n3 d3] 40))
      have HGa := Aside0.mk (blk_below HG.out hba)
      have HR2a := Aside0.mk (Kd.R_below HR2.out hba)
      have HR3a := Aside0.mk (Kd.R_below HR3.out hba)
      have HOa := Aside0.mk (Kd.R_below HO.out hba)
      have HBa := Aside0.mk (HB.out.trans (hba.mono HB.out.size))
      have HKa := Aside0.mk (HK.out.trans (KeepBut.of_below hba g none) (.inl rfl))
      clear HG HR2 HR3 HO HB HK
      go_upto_region 6 with fail
      generalize wr.alloc (.cells #[.int .i64 l1, .slice B3 n3 d3] 40) = wa at *
      have hx0 : wa.cell? ⟨wr.heap.size, 0, none⟩ = some (.int .i64 l1) := (blk_cell HF.out 0).trans rfl
      have hx1 : wa.cell? ⟨wr.heap.size, 1, none⟩ = some (.slice B3 n3 d3) := (blk_cell HF.out 1).trans rfl
      have hx4 : wa.cell? ⟨g, 4, none⟩ = some (.int .i64 (now + 1)) := (blk_cell HGa.out 4).trans rfl
      generalize hen : En l1 f.ws1 (now + 1) = r at *
      have HEN := Aside0.mk hen
      clear hen
      refine start_ (n := 11) (S := fun w' => w'.cell? ⟨wr.heap.size, 0, none⟩ = some (.int .i64 l1) ∧ w'.cell? ⟨wr.heap.size, 1, none⟩ = some (.slice B3 n3 d3) ∧ w'.cell? ⟨g, 4, none⟩ = some (.int .i64 (now + 1))) (ds := []) #[false, false, false, false, false, false, false, false, false, false, false] (by kernel_rfl) rfl rfl ⟨hx0, hx1, hx4⟩ (fun hHeld => ?_)
      refine pure_ (i := 1) (N := some 24) (v := ?_) (a' := ?_) #[false, true, false, false, false, false, false, false, false, false, false] rfl rfl (by kernel_rfl) (fun _ _ _ h => h) (Or.inl ⟨by rfl, ?_⟩) ?_ ?_
      rotate_left
      · intro w'
        go_simp
        with_reducible rfl
      rotate_left
      · simp only [Act.put, List.setIfInBounds_toArray, List.set_cons_zero, List.set_cons_succ, i64_w, i32_w]
        rfl
      refine pure_ (i := 2) (N := some 25) (v := ?_) (a' := ?_) #[false, true, true, false, false, false, false, false, false, false, false] rfl rfl (by kernel_rfl) (fun _ _ _ h => h) (Or.inl ⟨by rfl, ?_⟩) ?_ ?_
      rotate_left
      · intro w'
        go_simp
        with_reducible rfl
      rotate_left
      · simp only [Act.put, List.setIfInBounds_toArray, List.set_cons_zero, List.set_cons_succ, i64_w, i32_w]
        rfl
      refine pure_ (i := 3) (N := some 26) (v := ?_) (a' := ?_) #[false, true, true, true, false, false, false, false, false, false, false] rfl rfl (by kernel_rfl) (fun _ _ _ h => h) (Or.inl ⟨by rfl, ?_⟩) ?_ ?_
      rotate_left
      · intro w'
        go_simp
        with_reducible rfl
      rotate_left
      · simp only [Act.put, List.setIfInBounds_toArray, List.set_cons_zero, List.set_cons_succ, i64_w, i32_w]
        rfl
      refine take_ (i := 0) (N := some 23) (v := ?_) (a' := ?_) #[true, true, true, true, false, false, false, false, false, false, false] rfl rfl (by kernel_rfl) (fun _ _ _ h => h) (Or.inl ⟨by rfl, ?_⟩) hHeld ?_ ?_
      rotate_left
      · rintro w' ⟨s0, s1, s2⟩
        go_simp
        with_reducible rfl
      rotate_left
      · simp only [Act.put, List.setIfInBounds_toArray, List.set_cons_zero, List.set_cons_succ, i64_w, i32_w]
        rfl
      refine take_ (i := 4) (N := some 27) (v := ?_) (a' := ?_) #[true, true, true, true, true, false, false, false, false, false, false] rfl rfl (by kernel_rfl) (fun _ _ _ h => h) (Or.inl ⟨by rfl, ?_⟩) hHeld ?_ ?_
      rotate_left
      · rintro w' ⟨s0, s1, s2⟩
        go_simp
        with_reducible rfl
      rotate_left
      · simp only [Act.put, List.setIfInBounds_toArray, List.set_cons_zero, List.set_cons_succ, i64_w, i32_w]
        rfl
      refine one_ (i := 5) (N := some 28) #[true, true, true, true, true, true, false, false, false, false, false] rfl rfl (by kernel_rfl) (by decide) (fun K hK => ?_)
      refine goes_ Try.func27 (by kernel_rfl) rfl #[.agg #[.int .i64 l1, .slice B3 n3 d3], .int .i64 (now + 1)] (by rfl) rfl rfl (by simp only [List.map_toArray, List.map_cons, List.map_nil]; rfl) ?_
      with_reducible refine (HC3.out _ (Kd.C_below (by have h := (Kd.R_reads' HR3a.out).2.2; rw [HLN.out.2] at h; exact h) (below_drew1 (Below.refl _ _)))).mono ?_
      rintro e w3 ⟨rfl, h1⟩
      refine ⟨_, rfl, ?_⟩
      have HBB := Aside0.mk ((below_drew1 (Below.refl wa.heap.size wa)).trans (h1.mono (Nat.le_refl _)))
      clear h1
      refine hK.out _ _ ⟨pw_cell_below HBB.out hx0, pw_cell_below HBB.out hx1, pw_cell_below HBB.out hx4⟩ (fun hHeld => ?_)
      clear hK K
      refine norm_ (a' := ?_) ?_ ?_
      rotate_left
      · show Act.put _ (some 28) _ = _
        simp only [Act.put, List.setIfInBounds_toArray, List.set_cons_zero, List.set_cons_succ, i64_w, i32_w]
        rfl
      refine pure_ (i := 6) (N := some 22) (v := ?_) (a' := ?_) #[true, true, true, true, true, true, true, false, false, false, false] rfl rfl (by kernel_rfl) (fun _ _ _ h => h) (Or.inl ⟨by rfl, ?_⟩) ?_ ?_
      rotate_left
      · intro w'
        go_simp
        with_reducible rfl
      rotate_left
      · simp only [Act.put, List.setIfInBounds_toArray, List.set_cons_zero, List.set_cons_succ, i64_w, i32_w]
        rfl
      refine pure_ (i := 7) (N := some 29) (v := ?_) (a' := ?_) #[true, true, true, true, true, true, true, true, false, false, false] rfl rfl (by kernel_rfl) (fun _ _ _ h => h) (Or.inl ⟨by rfl, ?_⟩) ?_ ?_
      rotate_left
      · intro w'
        go_simp
        with_reducible rfl
      rotate_left
      · simp only [Act.put, List.setIfInBounds_toArray, List.set_cons_zero, List.set_cons_succ, i64_w, i32_w]
        rfl
      refine pure_ (i := 8) (N := some 30) (v := ?_) (a' := ?_) #[true, true, true, true, true, true, true, true, true, false, false] rfl rfl (by kernel_rfl) (fun _ _ _ h => h) (Or.inl ⟨by rfl, ?_⟩) ?_ ?_
      rotate_left
      · intro w'
        go_simp
        with_reducible rfl
      rotate_left
      · simp only [Act.put, List.setIfInBounds_toArray, List.set_cons_zero, List.set_cons_succ, i64_w, i32_w]
        rfl
      refine pure_ (i := 9) (N := some 6) (v := ?_) (a' := ?_) #[true, true, true, true, true, true, true, true, true, true, false] rfl rfl (by kernel_rfl) (fun _ _ _ h => h) (Or.inl ⟨by rfl, ?_⟩) ?_ ?_
      rotate_left
      · intro w'
        go_simp
        with_reducible rfl
      rotate_left
      · simp only [Act.put, List.setIfInBounds_toArray, List.set_cons_zero, List.set_cons_succ, i64_w, i32_w]
        rfl
      refine pure_ (i := 10) (N := some 7) (v := ?_) (a' := ?_) #[true, true, true, true, true, true, true, true, true, true, true] rfl rfl (by kernel_rfl) (fun _ _ _ h => h) (Or.inl ⟨by rfl, ?_⟩) ?_ ?_
      rotate_left
      · intro w'
        go_simp
        with_reducible rfl
      rotate_left
      · simp only [Act.put, List.setIfInBounds_toArray, List.set_cons_zero, List.set_cons_succ, i64_w, i32_w]
        rfl
      refine done_ (by kernel_rfl) ?_
      have HG4 := Aside0.mk (blk_below HGa.out HBB.out)
      have HR24 := Aside0.mk (Kd.R_below HR2a.out HBB.out)
      have HR34 := Aside0.mk (Kd.R_below HR3a.out HBB.out)
      have HO4 := Aside0.mk (Kd.R_below HOa.out HBB.out)
      have HB4 := Aside0.mk (HBa.out.trans (HBB.out.mono HBa.out.size))
      have HK4 := Aside0.mk (HKa.out.trans (KeepBut.of_below HBB.out g none) (.inl rfl))
      clear HF HGa HR2a HR3a HOa HBa HKa HBB hx0 hx1 hx4 hba
      obtain ⟨rp, rb⟩ := r
      cases rb with
      | false =>
        have HEQ : Aside0 (entP f (now + 1) 2 = entP f (now + 1) 1) := ⟨by show (if (En f.l0 f.ws0 (now + 1)).2 = true then [(En f.l0 f.ws0 (now + 1)).1] else []) ++ (if (En f.l1 f.ws1 (now + 1)).2 = true then [(En f.l1 f.ws1 (now + 1)).1] else []) = (if (En f.l0 f.ws0 (now + 1)).2 = true then [(En f.l0 f.ws0 (now + 1)).1] else []); rw [HE.out.2, HEN.out]; simp⟩
        go_wp2
        go_roundw
        case rel => exact ⟨2, Av, nv, cv, by omega, rfl, by go_num, ⟨by rw [HEQ.out]; exact HO4.out⟩, HG4, HR24, HR34, HB4, HK4⟩
        case measure => simp [intOf]
      | true =>
        have HEQ : Aside0 (entP f (now + 1) 2 = entP f (now + 1) 1 ++ [rp]) := ⟨by show (if (En f.l0 f.ws0 (now + 1)).2 = true then [(En f.l0 f.ws0 (now + 1)).1] else []) ++ (if (En f.l1 f.ws1 (now + 1)).2 = true then [(En f.l1 f.ws1 (now + 1)).1] else []) = (if (En f.l0 f.ws0 (now + 1)).2 = true then [(En f.l0 f.ws0 (now + 1)).1] else []) ++ [rp]; rw [HE.out.2, HEN.out]; simp⟩
        have hln := entP_le f (now + 1) 1
        go_wp2_with (at_builtin; refine Kd.R_append (Kd.int .i64) (w0 := w3) W.heap.size rfl (.tmp 32) (.tmp 34) 32 3 (.int .i64 0) 8 rfl hu info_int rfl (by decide) (by omega) _ (entP f (now + 1) 1) rp [.int .i64 rp] (fun j => W.heap.size ≤ j) (fun _ => False) rfl rfl ?bP (fun _ h => h.elim) ?bF ?bO ?bB ?bS ?bL ?_)
        case bP => exact rfl
        case bF => exact fun k hk => Nat.le_trans HK4.out.1 hk
        case bO => exact HO4.out
        case bB => exact Below.refl _ _
        case bS => exact HK4.out.1
        case bL => omega
        intro v1 w6 ho hb hg hat
        obtain ⟨A6, n6, c6, rfl⟩ : ∃ A n c, v1 = .slice A n c := by
          obtain ⟨A, c, h⟩ := Kd.R_slice ho
          exact ⟨A, _, c, h⟩
        have HO6 : Aside0 (Kd.R (Kd.int .i64) 3 w6 W.heap.size (fun j => W.heap.size ≤ j) (.slice A6 n6 c6) (entP f (now + 1) 2)) := ⟨by rw [HEQ.out]; exact ho⟩
        have HG6 := Aside0.mk ((hb.block g hlt).trans HG4.out)
        have HR26 := Aside0.mk (R_by HR24.out HO4.out (by decide) hg)
        have HR36 := Aside0.mk (R_by HR34.out HO4.out (by decide) hg)
        have HB6 := Aside0.mk (HB4.out.trans (hb.mono HBW.out.size))
        have HK6 : Aside0 (KeepBut W w6 g none) := ⟨⟨by have a := HK4.out.1; have b := hb.size; omega, fun k hk q1 q2 => (hb.block k hk).trans (HK4.out.2 k hk q1 q2)⟩⟩
        clear ho hb hg hat
        go_wp2
        go_roundw
        case rel => exact ⟨2, A6, n6, c6, by omega, rfl, by go_num, HO6, HG6, HR26, HR36, HB6, HK6⟩
        case measure => simp [intOf]
    | 2, _ =>
      go_wp2
      go_ret
      refine ⟨Av, nv, cv, rfl, HO.out, ⟨⟨B2, d2, B3, d3, ?_, ?_, ?_⟩, hge, HB.out⟩, HK.out, HB.out⟩
      · rw [HLN.out.1, HLN.out.2, HE.out.1, HE.out.2]; exact HG.out
      · rw [HLN.out.1]; exact HR2.out
      · rw [HLN.out.2]; exact HR3.out
end Go.Proofs.Ytndmdlnmjamgkaa.Core
