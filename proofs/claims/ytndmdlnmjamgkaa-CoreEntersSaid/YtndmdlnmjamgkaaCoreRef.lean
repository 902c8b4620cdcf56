import Derived.Test.YtndmdlnmjamgkaaCoreTick
/- Package portholeref15: Who, Entered, in plain words. -/
namespace Go.Proofs.Ytndmdlnmjamgkaa.Core
open Go.RowKit Go.Proofs.YtndmdlnmjamgkaaW.PrintWords Go.Proofs.YtndmdlnmjamgkaaW.PrintLast Go.Proofs.YtndmdlnmjamgkaaW.PrintMore Go.Proofs.Ytndmdlnmjamgkaa.PF Go.Proofs.Ytndmdlnmjamgkaa.Frame Go.Proofs.Ytndmdlnmjamgkaa.Box
set_option linter.unusedSimpArgs false
set_option linter.unusedVariables false
/-- The cells of a configuration with these frames. -/
def IsFr (w : World) (f : Fr) (cs : Array Value) : Prop := ∃ Ap np cp Ax nx cx A2 c2 A3 c3, cs = #[.slice Ap np cp, .slice Ax nx cx, .int .i64 f.l0, .slice A2 f.ws0.length c2, .int .i64 f.l1, .slice A3 f.ws1.length c3] ∧ (f.ws0.length ≤ c2 ∧ f.ws1.length ≤ c3) ∧ Kd.C k46 w A2 f.ws0.length f.ws0 ∧ Kd.C k46 w A3 f.ws1.length f.ws1
theorem isFr_below {w w1 : World} {f : Fr} {cs : Array Value} (h : IsFr w f cs) (hb : Below w.heap.size w w1) : IsFr w1 f cs := by
  obtain ⟨Ap, np, cp, Ax, nx, cx, A2, c2, A3, c3, e, hl, h2, h3⟩ := h
  exact ⟨Ap, np, cp, Ax, nx, cx, A2, c2, A3, c3, e, hl, Kd.C_below h2 hb, Kd.C_below h3 hb⟩
set_option maxHeartbeats 2000000 in
theorem refwho_calls {W : World} {f : Fr} {cs : Array Value} (h : IsFr W f cs) (core now : Int) : Calls Try.prog 46 #[.agg cs, .int .i64 core, .int .i64 now] W fun e w' => e = .returned (.tuple #[.int .i64 (whoV f now core).1, .bool (whoV f now core).2]) ∧ Below W.heap.size W w' := by
  obtain ⟨Ap, np, cp, Ax, nx, cx, A2, c2, A3, c3, rfl, ⟨hl2, hl3⟩, h2, h3⟩ := h
  have hb1 := below_alloc (Below.refl _ W) (.cells #[.slice Ap np cp, .slice Ax nx cx, .int .i64 f.l0, .slice A2 f.ws0.length c2, .int .i64 f.l1, .slice A3 f.ws1.length c3] 61)
  have HC2 := Aside0.mk (fun (X : World) (hX : Below W.heap.size W X) => refat_calls f.l0 A2 c2 f.ws0 now X hl2 (Kd.C_below h2 hX))
  have HC3 := Aside0.mk (fun (X : World) (hX : Below W.heap.size W X) => refat_calls f.l1 A3 c3 f.ws1 now X hl3 (Kd.C_below h3 hX))
  have HW0 : Aside0 (whoV f now 0 = At f.l0 f.ws0 now) := ⟨rfl⟩
  have HW1 : Aside0 (whoV f now 1 = At f.l1 f.ws1 now) := ⟨rfl⟩
  have HWN : Aside0 (core < 0 ∨ 1 < core → whoV f now core = (0, false)) := ⟨fun h => by rw [whoV, if_neg (by omega), if_neg (by omega)]⟩
  have HB1 := Aside0.mk hb1
  clear hl2 hl3 h2 h3 hb1
  generalize f.l0 = l0 at *
  generalize f.l1 = l1 at *
  generalize f.ws0.length = n2 at *
  generalize f.ws1.length = n3 at *
  by_cases hn : core < 0
  · have hd : decide (core < 0) = true := decide_eq_true hn
    rw [HWN.out (.inl hn)]
    clear hn
    go_enter Try.func46, Try.ntmps46
    go_wp2
    (try simp only [Exit.inBlock, Exit.then])
    refine bodyPost_ret (by simp [results, Try.results46, go_sem]; try rfl) rfl ?_
    exact ⟨rfl, HB1.out⟩
  · by_cases hg : 1 < core
    · have hd : decide (core < 0) = false := decide_eq_false hn
      have hd2 : decide (1 < core) = true := decide_eq_true hg
      rw [HWN.out (.inr hg)]
      clear hn hg
      go_enter Try.func46, Try.ntmps46
      go_wp2
      (try simp only [Exit.inBlock, Exit.then])
      refine bodyPost_ret (by simp [results, Try.results46, go_sem]; try rfl) rfl ?_
      exact ⟨rfl, HB1.out⟩
    · rcases (show core = 0 ∨ core = 1 by omega) with rfl | rfl
      · rw [HW0.out]
        generalize At l0 f.ws0 now = r at *
        clear hn hg
        go_enter Try.func46, Try.ntmps46
        go_wp2_with fail
        refine (HC2.out _ HB1.out).mono ?_
        rintro e w3 ⟨rfl, h1⟩
        have HB3 := Aside0.mk (HB1.out.trans (h1.mono HB1.out.size))
        clear h1
        go_wp2
        (try simp only [Exit.inBlock, Exit.then])
        refine bodyPost_ret (by simp [results, Try.results46, go_sem]; try rfl) rfl ?_
        exact ⟨rfl, HB3.out⟩
      · rw [HW1.out]
        generalize At l1 f.ws1 now = r at *
        clear hn hg
        go_enter Try.func46, Try.ntmps46
        go_wp2_with fail
        refine (HC3.out _ HB1.out).mono ?_
        rintro e w3 ⟨rfl, h1⟩
        have HB3 := Aside0.mk (HB1.out.trans (h1.mono HB1.out.size))
        clear h1
        go_wp2
        (try simp only [Exit.inBlock, Exit.then])
        refine bodyPost_ret (by simp [results, Try.results46, go_sem]; try rfl) rfl ?_
        exact ⟨rfl, HB3.out⟩
set_option maxRecDepth 20000 in
set_option maxHeartbeats 4000000 in
theorem refent_calls {W : World} {f : Fr} {cs : Array Value} (h : IsFr W f cs) (now : Int) : Calls Try.prog 47 #[.agg cs, .int .i64 now] W fun e w' => ∃ A n c, e = .returned (.slice A n c) ∧ Kd.R (Kd.int .i64) 3 w' W.heap.size (fun j => W.heap.size ≤ j) (.slice A n c) (entV f now) ∧ Below W.heap.size W w' := by
  obtain ⟨Ap, np, cp, Ax, nx, cx, A2, c2, A3, c3, rfl, ⟨hl2, hl3⟩, h2, h3⟩ := h
  have hb1 := below_alloc (Below.refl _ W) (.cells #[.slice Ap np cp, .slice Ax nx cx, .int .i64 f.l0, .slice A2 f.ws0.length c2, .int .i64 f.l1, .slice A3 f.ws1.length c3] 61)
  have hg1 := blk_new W (.cells #[.slice Ap np cp, .slice Ax nx cx, .int .i64 f.l0, .slice A2 f.ws0.length c2, .int .i64 f.l1, .slice A3 f.ws1.length c3] 61)
  have HC2 := Aside0.mk (fun (X : World) (hX : Below W.heap.size W X) => refen_calls f.l0 A2 c2 f.ws0 now X hl2 (Kd.C_below h2 hX))
  have HC3 := Aside0.mk (fun (X : World) (hX : Below W.heap.size W X) => refen_calls f.l1 A3 c3 f.ws1 now X hl3 (Kd.C_below h3 hX))
  have HB := Aside0.mk hb1
  have HG := Aside0.mk hg1
  obtain ⟨n2, hn2⟩ : ∃ n, f.ws0.length = n := ⟨_, rfl⟩
  obtain ⟨n3, hn3⟩ : ∃ n, f.ws1.length = n := ⟨_, rfl⟩
  obtain ⟨l0, hl0⟩ : ∃ n, f.l0 = n := ⟨_, rfl⟩
  obtain ⟨l1, hl1⟩ : ∃ n, f.l1 = n := ⟨_, rfl⟩
  rw [hn2, hn3, hl0, hl1] at HB HG ⊢
  rw [hn2, hl0] at HC2
  rw [hn3, hl1] at HC3
  have HE := Aside0.mk (And.intro hl0 hl1)
  clear hn2 hn3 hl0 hl1 hl2 hl3 h2 h3 hb1 hg1
  have hu := Try.underlying32
  go_enter Try.func47, Try.ntmps47
  go_wp2_with fail
  generalize W.alloc (.cells #[.slice Ap np cp, .slice Ax nx cx, .int .i64 l0, .slice A2 n2 c2, .int .i64 l1, .slice A3 n3 c3] 61) = w1 at *
  go_loopw [5, 6] (fun v5 v6 wr => ∃ (i : Nat) (Av : Option Addr) (nv cv : Nat), i ≤ 2 ∧ v5 = .slice Av nv cv ∧ v6 = .int .i64 i ∧ Aside0 (Kd.R (Kd.int .i64) 3 wr (W.heap.size + 1) (fun j => W.heap.size + 1 ≤ j) (.slice Av nv cv) (entP f now i)) ∧ Aside0 (wr.heap[W.heap.size]? = some (.cells #[.slice Ap np cp, .slice Ax nx cx, .int .i64 l0, .slice A2 n2 c2, .int .i64 l1, .slice A3 n3 c3] 61 (0, 0))) ∧ Aside0 (Below W.heap.size W wr)) (fun _ v _ => 2 - (intOf v).toNat)
  case atStart => exact ⟨0, none, 0, 0, by omega, rfl, rfl, ⟨Kd.R_nil _ _ _ _ _⟩, HG, HB⟩
  case round =>
    clear HG HB
    obtain ⟨i, Av, nv, cv, hi, rfl, rfl, HO, HG, HB⟩ := hrel
    have hsz := blk_lt HG.out
    match i, hi with
    | 0, _ =>
      have hx0 : wr.cell? ⟨W.heap.size, 2, none⟩ = some (.int .i64 l0) := (blk_cell HG.out 2).trans rfl
      have hx1 : wr.cell? ⟨W.heap.size, 3, none⟩ = some (.slice A2 n2 c2) := (blk_cell HG.out 3).trans rfl
      generalize hen : En l0 f.ws0 now = r at *
      have HEN := Aside0.mk hen
      clear hen
      go_wp2_with fail
      refine (HC2.out _ HB.out).mono ?_
      rintro e w3 ⟨rfl, h1⟩
      have HG4 := Aside0.mk (blk_below HG.out h1)
      have HO4 := Aside0.mk (Kd.R_below HO.out h1)
      have HB4 := Aside0.mk (HB.out.trans (h1.mono HB.out.size))
      have hsz4 := blk_lt HG4.out
      clear HG HO HB hx0 hx1 h1 hsz
      obtain ⟨rp, rb⟩ := r
      cases rb with
      | false =>
        have HEQ : Aside0 (entP f now 1 = entP f now 0) := ⟨by show (if (En f.l0 f.ws0 now).2 = true then [(En f.l0 f.ws0 now).1] else []) = []; rw [HE.out.1, HEN.out]; rfl⟩
        go_wp2
        go_roundw
        case rel => exact ⟨1, Av, nv, cv, by omega, rfl, by go_num, ⟨by rw [HEQ.out]; exact HO4.out⟩, HG4, HB4⟩
        case measure => simp [intOf]
      | true =>
        have HEQ : Aside0 (entP f now 1 = entP f now 0 ++ [rp]) := ⟨by show (if (En f.l0 f.ws0 now).2 = true then [(En f.l0 f.ws0 now).1] else []) = [] ++ [rp]; rw [HE.out.1, HEN.out]; rfl⟩
        have hln := entP_le f now 0
        go_wp2_with (at_builtin; refine Kd.R_append (Kd.int .i64) (w0 := w3) (W.heap.size + 1) rfl (.tmp 23) (.tmp 25) 32 3 (.int .i64 0) 8 rfl hu info_int rfl (by decide) (by omega) _ (entP f now 0) rp [.int .i64 rp] (fun j => W.heap.size + 1 ≤ j) (fun _ => False) rfl rfl ?aP (fun _ h => h.elim) ?aF ?aO ?aB ?aS ?aL ?_)
        case aP => exact rfl
        case aF => exact fun k hk => by omega
        case aO => exact HO4.out
        case aB => exact Below.refl _ _
        case aS => omega
        case aL => omega
        intro v1 w6 ho hb hg hat
        obtain ⟨A6, n6, c6, rfl⟩ : ∃ A n c, v1 = .slice A n c := by
          obtain ⟨A, c, h⟩ := Kd.R_slice ho
          exact ⟨A, _, c, h⟩
        have HO6 : Aside0 (Kd.R (Kd.int .i64) 3 w6 (W.heap.size + 1) (fun j => W.heap.size + 1 ≤ j) (.slice A6 n6 c6) (entP f now 1)) := ⟨by rw [HEQ.out]; exact ho⟩
        have HG6 := Aside0.mk ((hb.block W.heap.size (by omega)).trans HG4.out)
        have HB6 := Aside0.mk (HB4.out.trans (hb.mono (by omega)))
        clear ho hb hg hat
        go_wp2
        go_roundw
        case rel => exact ⟨1, A6, n6, c6, by omega, rfl, by go_num, HO6, HG6, HB6⟩
        case measure => simp [intOf]
    | 1, _ =>
      have hx0 : wr.cell? ⟨W.heap.size, 4, none⟩ = some (.int .i64 l1) := (blk_cell HG.out 4).trans rfl
      have hx1 : wr.cell? ⟨W.heap.size, 5, none⟩ = some (.slice A3 n3 c3) := (blk_cell HG.out 5).trans rfl
      generalize hen : En l1 f.ws1 now = r at *
      have HEN := Aside0.mk hen
      clear hen
      go_wp2_with fail
      refine (HC3.out _ HB.out).mono ?_
      rintro e w3 ⟨rfl, h1⟩
      have HG4 := Aside0.mk (blk_below HG.out h1)
      have HO4 := Aside0.mk (Kd.R_below HO.out h1)
      have HB4 := Aside0.mk (HB.out.trans (h1.mono HB.out.size))
      have hsz4 := blk_lt HG4.out
      clear HG HO HB hx0 hx1 h1 hsz
      obtain ⟨rp, rb⟩ := r
      cases rb with
      | false =>
        have HEQ : Aside0 (entP f now 2 = entP f now 1) := ⟨by show (if (En f.l0 f.ws0 now).2 = true then [(En f.l0 f.ws0 now).1] else []) ++ (if (En f.l1 f.ws1 now).2 = true then [(En f.l1 f.ws1 now).1] else []) = (if (En f.l0 f.ws0 now).2 = true then [(En f.l0 f.ws0 now).1] else []); rw [HE.out.2, HEN.out]; simp⟩
        go_wp2
        go_roundw
        case rel => exact ⟨2, Av, nv, cv, by omega, rfl, by go_num, ⟨by rw [HEQ.out]; exact HO4.out⟩, HG4, HB4⟩
        case measure => simp [intOf]
      | true =>
        have HEQ : Aside0 (entP f now 2 = entP f now 1 ++ [rp]) := ⟨by show (if (En f.l0 f.ws0 now).2 = true then [(En f.l0 f.ws0 now).1] else []) ++ (if (En f.l1 f.ws1 now).2 = true then [(En f.l1 f.ws1 now).1] else []) = (if (En f.l0 f.ws0 now).2 = true then [(En f.l0 f.ws0 now).1] else []) ++ [rp]; rw [HE.out.2, HEN.out]; simp⟩
        have hln := entP_le f now 1
        go_wp2_with (at_builtin; refine Kd.R_append (Kd.int .i64) (w0 := w3) (W.heap.size + 1) rfl (.tmp 23) (.tmp 25) 32 3 (.int .i64 0) 8 rfl hu info_int rfl (by decide) (by omega) _ (entP f now 1) rp [.int .i64 rp] (fun j => W.heap.size + 1 ≤ j) (fun _ => False) rfl rfl ?bP (fun _ h => h.elim) ?bF ?bO ?bB ?bS ?bL ?_)
        case bP => exact rfl
        case bF => exact fun k hk => by omega
        case bO => exact HO4.out
        case bB => exact Below.refl _ _
        case bS => omega
        case bL => omega
        intro v1 w6 ho hb hg hat
        obtain ⟨A6, n6, c6, rfl⟩ : ∃ A n c, v1 = .slice A n c := by
          obtain ⟨A, c, h⟩ := Kd.R_slice ho
          exact ⟨A, _, c, h⟩
        have HO6 : Aside0 (Kd.R (Kd.int .i64) 3 w6 (W.heap.size + 1) (fun j => W.heap.size + 1 ≤ j) (.slice A6 n6 c6) (entP f now 2)) := ⟨by rw [HEQ.out]; exact ho⟩
        have HG6 := Aside0.mk ((hb.block W.heap.size (by omega)).trans HG4.out)
        have HB6 := Aside0.mk (HB4.out.trans (hb.mono (by omega)))
        clear ho hb hg hat
        go_wp2
        go_roundw
        case rel => exact ⟨2, A6, n6, c6, by omega, rfl, by go_num, HO6, HG6, HB6⟩
        case measure => simp [intOf]
    | 2, _ =>
      go_wp2
      go_ret
      exact ⟨Av, nv, cv, rfl, Kd.R_mono (Kd.R_lower HO.out (by omega)) (fun j hj => Nat.le_of_succ_le hj), HB.out⟩
end Go.Proofs.Ytndmdlnmjamgkaa.Core
