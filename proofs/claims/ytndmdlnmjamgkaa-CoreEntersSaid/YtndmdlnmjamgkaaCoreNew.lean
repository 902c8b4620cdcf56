import Derived.Test.YtndmdlnmjamgkaaFrame
import Derived.Test.YtndmdlnmjamgkaaCoreClone
import Derived.Test.YtndmdlnmjamgkaaWLast
import Derived.Deep.QuietTactic
import Derived.BigQuiet
import Derived.Handy
import Derived.WalkSpells
/- Package core: a clock, in plain words. Written by wip/corenew.py. -/
namespace Go.Proofs.Ytndmdlnmjamgkaa.Core
open Go.RowKit Go.Proofs.YtndmdlnmjamgkaaW.PrintWords Go.Proofs.YtndmdlnmjamgkaaW.PrintLast Go.Proofs.YtndmdlnmjamgkaaW.PrintMore Go.Proofs.Ytndmdlnmjamgkaa.PF Go.Proofs.Ytndmdlnmjamgkaa.Frame Go.Proofs.Ytndmdlnmjamgkaa.Box
set_option linter.unusedSimpArgs false
set_option linter.unusedVariables false
theorem at_calls (L : Int) (A : Option Addr) (c : Nat) (ws : List S46) (t : Int) (w : World) (hc : ws.length ≤ c) (hr : Kd.C k46 w A ws.length ws) :
    Calls Try.prog 26 #[.agg #[.int .i64 L, .slice A ws.length c], .int .i64 t] w fun e w' => e = .returned (.tuple #[.int .i64 (At L ws t).1, .bool (At L ws t).2]) ∧ Below w.heap.size w w' := frame_At.calls 50 L A c ws t _ _ w hr hc (At_eq 50 (by omega) L ws t)
theorem en_calls (L : Int) (A : Option Addr) (c : Nat) (ws : List S46) (t : Int) (w : World) (hc : ws.length ≤ c) (hr : Kd.C k46 w A ws.length ws) :
    Calls Try.prog 27 #[.agg #[.int .i64 L, .slice A ws.length c], .int .i64 t] w fun e w' => e = .returned (.tuple #[.int .i64 (En L ws t).1, .bool (En L ws t).2]) ∧ Below w.heap.size w w' := frame_Enters.calls 50 L A c ws t _ _ w hr hc (En_eq 50 (by omega) L ws t)
theorem refat_calls (L : Int) (A : Option Addr) (c : Nat) (ws : List S46) (t : Int) (w : World) (hc : ws.length ≤ c) (hr : Kd.C k46 w A ws.length ws) :
    Calls Try.prog 28 #[.agg #[.int .i64 L, .slice A ws.length c], .int .i64 t] w fun e w' => e = .returned (.tuple #[.int .i64 (At L ws t).1, .bool (At L ws t).2]) ∧ Below w.heap.size w w' := portholeref09_At.calls 50 L A c ws t _ _ w hr hc (RefAt_eq 50 (by omega) L ws t)
theorem refen_calls (L : Int) (A : Option Addr) (c : Nat) (ws : List S46) (t : Int) (w : World) (hc : ws.length ≤ c) (hr : Kd.C k46 w A ws.length ws) :
    Calls Try.prog 29 #[.agg #[.int .i64 L, .slice A ws.length c], .int .i64 t] w fun e w' => e = .returned (.tuple #[.int .i64 (En L ws t).1, .bool (En L ws t).2]) ∧ Below w.heap.size w w' := portholeref09_Enters.calls 50 L A c ws t _ _ w hr hc (RefEn_eq 50 (by omega) L ws t)
/-- Both frames. -/
structure Fr where
  l0 : Int
  ws0 : List S46
  l1 : Int
  ws1 : List S46
/-- A clock in block g: its frames' rows are of the call's own. -/
structure IsCk (w W : World) (g : Nat) (f : Fr) (now : Int) (x : Nat := g) : Prop where
  all : ∃ A2 c2 A3 c3, W.heap[g]? = some (.cells #[.int .i64 f.l0, .slice A2 f.ws0.length c2, .int .i64 f.l1, .slice A3 f.ws1.length c3, .int .i64 now] 81 (0, 0)) ∧
    Kd.R k46 46 W w.heap.size (fun j => j ≠ g ∧ j ≠ x) (.slice A2 f.ws0.length c2) f.ws0 ∧ Kd.R k46 46 W w.heap.size (fun j => j ≠ g ∧ j ≠ x) (.slice A3 f.ws1.length c3) f.ws1
  ge : w.heap.size ≤ g
  bel : Below w.heap.size w W
theorem IsCk.to {w W W' : World} {g x : Nat} {f : Fr} {now : Int} (h : IsCk w W g f now x) (hb : Below W.heap.size W W') : IsCk w W' g f now x := by
  obtain ⟨A2, c2, A3, c3, h1, h2, h3⟩ := h.all
  exact ⟨⟨A2, c2, A3, c3, blk_below h1 hb, Kd.R_below h2 hb, Kd.R_below h3 hb⟩, h.ge, h.bel.trans (hb.mono h.bel.size)⟩
theorem IsCk.lt {w W : World} {g x : Nat} {f : Fr} {now : Int} (h : IsCk w W g f now x) : g < W.heap.size := by
  obtain ⟨A2, c2, A3, c3, h1, _⟩ := h.all
  exact blk_lt h1
theorem IsCk.set {w W : World} {g x : Nat} {f : Fr} {now : Int} (h : IsCk w W g f now x) (v : Int) : IsCk w (W.setCell ⟨g, 4, none⟩ (.int .i64 v)) g f v x := by
  obtain ⟨A2, c2, A3, c3, h1, h2, h3⟩ := h.all
  exact ⟨⟨A2, c2, A3, c3, (blk_set h1 4 (.int .i64 v)).trans rfl, Kd.R_far h2 (fun j hj => hj.1) _, Kd.R_far h3 (fun j hj => hj.1) _⟩, h.ge, below_set h.bel h.ge⟩
/-- From a smaller world. -/
theorem IsCk.low {w0 w W : World} {g x : Nat} {f : Fr} {now : Int} (h : IsCk w W g f now x) (hb : Below w0.heap.size w0 w) : IsCk w0 W g f now x := by
  obtain ⟨A2, c2, A3, c3, h1, h2, h3⟩ := h.all
  exact ⟨⟨A2, c2, A3, c3, h1, Kd.R_lower h2 hb.size, Kd.R_lower h3 hb.size⟩, Nat.le_trans hb.size h.ge, hb.trans (h.bel.mono hb.size)⟩
/-- A block that is made behind the clock is none of its. -/
theorem IsCk.other {w W : World} {g x : Nat} {f : Fr} {now : Int} (h : IsCk w W g f now x) (o : Obj) : IsCk w (W.alloc o) g f now W.heap.size := by
  have hb := below_alloc (Below.refl _ W) o
  obtain ⟨A2, c2, A3, c3, h1, h2, h3⟩ := h.all
  have hs := h.bel.size
  exact ⟨⟨A2, c2, A3, c3, blk_below h1 hb, Kd.R_below (Kd.R_mono (Kd.R_lower (Kd.R_bound h2) (Nat.le_refl _)) (fun j hj => ⟨hj.1.1, by have := hj.2; omega⟩)) hb, Kd.R_below (Kd.R_mono (Kd.R_lower (Kd.R_bound h3) (Nat.le_refl _)) (fun j hj => ⟨hj.1.1, by have := hj.2; omega⟩)) hb⟩, h.ge, h.bel.trans (hb.mono hs)⟩
/-- A store into that block. -/
theorem IsCk.far {w W : World} {g x : Nat} {f : Fr} {now : Int} (h : IsCk w W g f now x) (hx : w.heap.size ≤ x) (hgx : g ≠ x) (i : Nat) (v : Value) : IsCk w (W.setCell ⟨x, i, none⟩ v) g f now x := by
  obtain ⟨A2, c2, A3, c3, h1, h2, h3⟩ := h.all
  exact ⟨⟨A2, c2, A3, c3, (Below.heap_setCell W ⟨x, i, none⟩ v g hgx).trans h1, Kd.R_far h2 (fun j hj => hj.2) _, Kd.R_far h3 (fun j hj => hj.2) _⟩, h.ge, below_set h.bel hx⟩
/-- The clock in the making: which frame's windows have been cloned. -/
structure NS (w W : World) (f : Fr) (A2 : Option Addr) (c2 : Nat) (A3 : Option Addr) (c3 : Nat) (own2 own3 : Bool) : Prop where
  blk : W.heap[w.heap.size + 1]? = some (.cells #[.int .i64 f.l0, .slice A2 f.ws0.length c2, .int .i64 f.l1, .slice A3 f.ws1.length c3, .int .i64 0] 81 (0, 0))
  r2 : own2 = true → Kd.R k46 46 W w.heap.size (fun j => j ≠ w.heap.size + 1) (.slice A2 f.ws0.length c2) f.ws0
  r3 : own3 = true → Kd.R k46 46 W w.heap.size (fun j => j ≠ w.heap.size + 1) (.slice A3 f.ws1.length c3) f.ws1
  bel : Below w.heap.size w W
section
variable {w W W' : World} {f : Fr} {A2 A3 : Option Addr} {c2 c3 : Nat} {o2 o3 : Bool}
theorem NS.to (h : NS w W f A2 c2 A3 c3 o2 o3) (hb : Below W.heap.size W W') : NS w W' f A2 c2 A3 c3 o2 o3 := ⟨blk_below h.blk hb, fun e => Kd.R_below (h.r2 e) hb, fun e => Kd.R_below (h.r3 e) hb, h.bel.trans (hb.mono h.bel.size)⟩
theorem NS.drew (h : NS w W f A2 c2 A3 c3 o2 o3) : NS w W.drew f A2 c2 A3 c3 o2 o3 := h.to (below_drew1 (Below.refl _ _))
theorem NS.x1 (h : NS w W f A2 c2 A3 c3 o2 o3) : W.cell? ⟨w.heap.size + 1, 1, none⟩ = some (.slice A2 f.ws0.length c2) := (blk_cell h.blk 1).trans rfl
theorem NS.x3 (h : NS w W f A2 c2 A3 c3 o2 o3) : W.cell? ⟨w.heap.size + 1, 3, none⟩ = some (.slice A3 f.ws1.length c3) := (blk_cell h.blk 3).trans rfl
theorem NS.f1 (h : NS w W f A2 c2 A3 c3 o2 o3) (j : Nat) : W.frozen? ⟨w.heap.size + 1, j, none⟩ = false := blk_frozen h.blk j
theorem own_ge {b : Nat} {v : Value} {xs : List S46} (h : Kd.R k46 46 W b (fun _ => True) v xs) (hb : w.heap.size + 2 ≤ b) : Kd.R k46 46 W w.heap.size (fun j => j ≠ w.heap.size + 1) v xs :=
  Kd.R_mono (Kd.R_lower (Kd.R_bound h) (by omega)) (fun j hj => by have := hj.2.1; show j ≠ w.heap.size + 1; omega)
theorem NS.put2 (h : NS w W f A2 c2 A3 c3 o2 o3) {B : Option Addr} {d : Nat} (hr : Kd.R k46 46 W w.heap.size (fun j => j ≠ w.heap.size + 1) (.slice B f.ws0.length d) f.ws0) : NS w (W.setCell ⟨w.heap.size + 1, 1, none⟩ (.slice B f.ws0.length d)) f B d A3 c3 true o3 :=
  ⟨(blk_set h.blk 1 _).trans rfl, fun _ => Kd.R_far hr (fun j hj => hj) _, fun e => Kd.R_far (h.r3 e) (fun j hj => hj) _, below_set h.bel (by omega)⟩
theorem NS.put3 (h : NS w W f A2 c2 A3 c3 o2 o3) {B : Option Addr} {d : Nat} (hr : Kd.R k46 46 W w.heap.size (fun j => j ≠ w.heap.size + 1) (.slice B f.ws1.length d) f.ws1) : NS w (W.setCell ⟨w.heap.size + 1, 3, none⟩ (.slice B f.ws1.length d)) f A2 c2 B d o2 true :=
  ⟨(blk_set h.blk 3 _).trans rfl, fun e => Kd.R_far (h.r2 e) (fun j hj => hj) _, fun _ => Kd.R_far hr (fun j hj => hj) _, below_set h.bel (by omega)⟩
end
set_option maxRecDepth 20000 in
set_option maxHeartbeats 4000000 in
theorem new_calls (w : World) (Ap : Option Addr) (np cp : Nat) (Ax : Option Addr) (nx cx : Nat) (f : Fr) (A2 : Option Addr) (c2 : Nat) (A3 : Option Addr) (c3 : Nat) (h2 : f.ws0.length ≤ c2) (h3 : f.ws1.length ≤ c3) (hr2 : Kd.C k46 w A2 f.ws0.length f.ws0) (hr3 : Kd.C k46 w A3 f.ws1.length f.ws1) (hl2 : f.ws0.length ≤ 1000000) (hl3 : f.ws1.length ≤ 1000000) :
    Calls Try.prog 41 #[.agg #[.slice Ap np cp, .slice Ax nx cx, .int .i64 f.l0, .slice A2 f.ws0.length c2, .int .i64 f.l1, .slice A3 f.ws1.length c3]] w fun e w' => e = .returned (.pointer (some ⟨w.heap.size + 1, 0, none⟩)) ∧ IsCk w w' (w.heap.size + 1) f 0 := by
  have HC2 := Aside0.mk (fun (X : World) (hX : Below w.heap.size w X) => clone_win A2 f.ws0.length c2 f.ws0 X rfl (Kd.C_below hr2 hX) (by omega))
  have HC3 := Aside0.mk (fun (X : World) (hX : Below w.heap.size w X) => clone_win A3 f.ws1.length c3 f.ws1 X rfl (Kd.C_below hr3 hX) (by omega))
  obtain ⟨n2, hn2⟩ : ∃ n, f.ws0.length = n := ⟨_, rfl⟩
  obtain ⟨n3, hn3⟩ : ∃ n, f.ws1.length = n := ⟨_, rfl⟩
  obtain ⟨l0, hl0⟩ : ∃ n, f.l0 = n := ⟨_, rfl⟩
  obtain ⟨l1, hl1⟩ : ∃ n, f.l1 = n := ⟨_, rfl⟩
  have hk := blk_new (w.alloc (.cells #[.slice Ap np cp, .slice Ax nx cx, .int .i64 l0, .slice A2 n2 c2, .int .i64 l1, .slice A3 n3 c3] 61)) (.cells #[.int .i64 l0, .slice A2 n2 c2, .int .i64 l1, .slice A3 n3 c3, .int .i64 0] 81)
  rw [World.size_alloc] at hk
  have hb := below_alloc (below_alloc (Below.refl _ w) (.cells #[.slice Ap np cp, .slice Ax nx cx, .int .i64 l0, .slice A2 n2 c2, .int .i64 l1, .slice A3 n3 c3] 61)) (.cells #[.int .i64 l0, .slice A2 n2 c2, .int .i64 l1, .slice A3 n3 c3, .int .i64 0] 81)
  have HN : Aside0 (NS w ((w.alloc (.cells #[.slice Ap np cp, .slice Ax nx cx, .int .i64 l0, .slice A2 n2 c2, .int .i64 l1, .slice A3 n3 c3] 61)).alloc (.cells #[.int .i64 l0, .slice A2 n2 c2, .int .i64 l1, .slice A3 n3 c3, .int .i64 0] 81)) f A2 c2 A3 c3 false false) := ⟨⟨by rw [hn2, hn3, hl0, hl1]; exact hk, fun e => (by cases e), fun e => (by cases e), hb⟩⟩
  have HSZ := Aside0.mk (show ((w.alloc (.cells #[.slice Ap np cp, .slice Ax nx cx, .int .i64 l0, .slice A2 n2 c2, .int .i64 l1, .slice A3 n3 c3] 61)).alloc (.cells #[.int .i64 l0, .slice A2 n2 c2, .int .i64 l1, .slice A3 n3 c3, .int .i64 0] 81)).heap.size = w.heap.size + 2 by simp)
  rw [hn2, hn3, hl0, hl1]
  rw [hn2] at HC2
  rw [hn3] at HC3
  have HE := Aside0.mk (And.intro hn2 (And.intro hn3 (And.intro hl0 hl1)))
  clear hk hb hn2 hn3 hl0 hl1 h2 h3 hr2 hr3 hl2 hl3
  go_enter Try.func41, Try.ntmps41
  go_wp2_with fail
  generalize (w.alloc (.cells #[.slice Ap np cp, .slice Ax nx cx, .int .i64 l0, .slice A2 n2 c2, .int .i64 l1, .slice A3 n3 c3] 61)).alloc (.cells #[.int .i64 l0, .slice A2 n2 c2, .int .i64 l1, .slice A3 n3 c3, .int .i64 0] 81) = w1 at *
  go_loopw [9] (fun v wr => ∃ (i : Nat) (B2 : Option Addr) (d2 : Nat) (B3 : Option Addr) (d3 : Nat), i ≤ 2 ∧ v = .int .i64 i ∧ Aside0 (NS w wr f B2 d2 B3 d3 (decide (1 ≤ i)) (decide (2 ≤ i))) ∧ Aside0 (w.heap.size + 2 ≤ wr.heap.size) ∧ Aside0 ((i < 1 → B2 = A2 ∧ d2 = c2) ∧ (i < 2 → B3 = A3 ∧ d3 = c3))) (fun v _ => 2 - (intOf v).toNat)
  case atStart => exact ⟨0, A2, c2, A3, c3, by omega, rfl, HN, ⟨by have := HSZ.out; omega⟩, ⟨fun _ => ⟨rfl, rfl⟩, fun _ => ⟨rfl, rfl⟩⟩⟩
  case round =>
    clear HN HSZ
    obtain ⟨i, B2, d2, B3, d3, hi, rfl, HN, HSZ, HAB⟩ := hrel
    match i, hi with
    | 0, _ =>
      obtain ⟨rfl, rfl⟩ := HAB.out.1 (by decide)
      have hcx := HN.out.x1
      rw [HE.out.1] at hcx
      go_wp2_with fail
      refine start_ (n := 15) (S := fun w' => w'.cell? ⟨w.heap.size + 1, 1, none⟩ = some (.slice B2 n2 d2)) (ds := [14]) #[false, false, false, false, false, false, false, false, false, false, false, false, false, false, false] (by kernel_rfl) rfl rfl ((by have h := HN.out.drew.x1; rw [HE.out.1] at h; exact h)) (fun hHeld => ?_)
      refine pure_ (i := 0) (N := some 12) (v := ?_) (a' := ?_) #[true, false, false, false, false, false, false, false, false, false, false, false, false, false, false] rfl rfl (by kernel_rfl) (fun _ _ _ h => h) (Or.inl ⟨by rfl, ?_⟩) ?_ ?_
      rotate_left
      · intro w'
        go_simp
        with_reducible rfl
      rotate_left
      · simp only [Act.put, List.setIfInBounds_toArray, List.set_cons_zero, List.set_cons_succ, i64_w, i32_w]
        rfl
      refine pure_ (i := 1) (N := some 13) (v := ?_) (a' := ?_) #[true, true, false, false, false, false, false, false, false, false, false, false, false, false, false] rfl rfl (by kernel_rfl) (fun _ _ _ h => h) (Or.inl ⟨by rfl, ?_⟩) ?_ ?_
      rotate_left
      · intro w'
        go_simp
        with_reducible rfl
      rotate_left
      · simp only [Act.put, List.setIfInBounds_toArray, List.set_cons_zero, List.set_cons_succ, i64_w, i32_w]
        rfl
      refine pure_ (i := 2) (N := some 14) (v := ?_) (a' := ?_) #[true, true, true, false, false, false, false, false, false, false, false, false, false, false, false] rfl rfl (by kernel_rfl) (fun _ _ _ h => h) (Or.inl ⟨by rfl, ?_⟩) ?_ ?_
      rotate_left
      · intro w'
        go_simp
        with_reducible rfl
      rotate_left
      · simp only [Act.put, List.setIfInBounds_toArray, List.set_cons_zero, List.set_cons_succ, i64_w, i32_w]
        rfl
      refine pure_ (i := 3) (N := some 15) (v := ?_) (a' := ?_) #[true, true, true, true, false, false, false, false, false, false, false, false, false, false, false] rfl rfl (by kernel_rfl) (fun _ _ _ h => h) (Or.inl ⟨by rfl, ?_⟩) ?_ ?_
      rotate_left
      · intro w'
        go_simp
        with_reducible rfl
      rotate_left
      · simp only [Act.put, List.setIfInBounds_toArray, List.set_cons_zero, List.set_cons_succ, i64_w, i32_w]
        rfl
      refine pure_ (i := 4) (N := some 16) (v := ?_) (a' := ?_) #[true, true, true, true, true, false, false, false, false, false, false, false, false, false, false] rfl rfl (by kernel_rfl) (fun _ _ _ h => h) (Or.inl ⟨by rfl, ?_⟩) ?_ ?_
      rotate_left
      · intro w'
        go_simp
        with_reducible rfl
      rotate_left
      · simp only [Act.put, List.setIfInBounds_toArray, List.set_cons_zero, List.set_cons_succ, i64_w, i32_w]
        rfl
      refine pure_ (i := 5) (N := some 17) (v := ?_) (a' := ?_) #[true, true, true, true, true, true, false, false, false, false, false, false, false, false, false] rfl rfl (by kernel_rfl) (fun _ _ _ h => h) (Or.inl ⟨by rfl, ?_⟩) ?_ ?_
      rotate_left
      · intro w'
        go_simp
        with_reducible rfl
      rotate_left
      · simp only [Act.put, List.setIfInBounds_toArray, List.set_cons_zero, List.set_cons_succ, i64_w, i32_w]
        rfl
      refine pure_ (i := 6) (N := some 18) (v := ?_) (a' := ?_) #[true, true, true, true, true, true, true, false, false, false, false, false, false, false, false] rfl rfl (by kernel_rfl) (fun _ _ _ h => h) (Or.inl ⟨by rfl, ?_⟩) ?_ ?_
      rotate_left
      · intro w'
        go_simp
        with_reducible rfl
      rotate_left
      · simp only [Act.put, List.setIfInBounds_toArray, List.set_cons_zero, List.set_cons_succ, i64_w, i32_w]
        rfl
      refine pure_ (i := 7) (N := some 19) (v := ?_) (a' := ?_) #[true, true, true, true, true, true, true, true, false, false, false, false, false, false, false] rfl rfl (by kernel_rfl) (fun _ _ _ h => h) (Or.inl ⟨by rfl, ?_⟩) ?_ ?_
      rotate_left
      · intro w'
        go_simp
        with_reducible rfl
      rotate_left
      · simp only [Act.put, List.setIfInBounds_toArray, List.set_cons_zero, List.set_cons_succ, i64_w, i32_w]
        rfl
      refine pure_ (i := 10) (N := some 22) (v := ?_) (a' := ?_) #[true, true, true, true, true, true, true, true, false, false, true, false, false, false, false] rfl rfl (by kernel_rfl) (fun _ _ _ h => h) (Or.inl ⟨by rfl, ?_⟩) ?_ ?_
      rotate_left
      · intro w'
        go_simp
        with_reducible rfl
      rotate_left
      · simp only [Act.put, List.setIfInBounds_toArray, List.set_cons_zero, List.set_cons_succ, i64_w, i32_w]
        rfl
      refine pure_ (i := 11) (N := some 23) (v := ?_) (a' := ?_) #[true, true, true, true, true, true, true, true, false, false, true, true, false, false, false] rfl rfl (by kernel_rfl) (fun _ _ _ h => h) (Or.inl ⟨by rfl, ?_⟩) ?_ ?_
      rotate_left
      · intro w'
        go_simp
        with_reducible rfl
      rotate_left
      · simp only [Act.put, List.setIfInBounds_toArray, List.set_cons_zero, List.set_cons_succ, i64_w, i32_w]
        rfl
      refine take_ (i := 8) (N := some 20) (v := ?_) (a' := ?_) #[true, true, true, true, true, true, true, true, true, false, true, true, false, false, false] rfl rfl (by kernel_rfl) (fun _ _ _ h => h) (Or.inl ⟨by rfl, ?_⟩) hHeld ?_ ?_
      rotate_left
      · intro w' s0
        go_simp
        with_reducible rfl
      rotate_left
      · simp only [Act.put, List.setIfInBounds_toArray, List.set_cons_zero, List.set_cons_succ, i64_w, i32_w]
        rfl
      refine one_ (i := 9) (N := some 21) #[true, true, true, true, true, true, true, true, true, true, true, true, false, false, false] rfl rfl (by kernel_rfl) (by decide) (fun K hK => ?_)
      refine goes_ Try.func56 (by kernel_rfl) rfl #[.slice B2 n2 d2] (by rfl) rfl rfl (by simp only [List.map_toArray, List.map_cons, List.map_nil]; rfl) ?_
      with_reducible refine (HC2.out _ HN.out.drew.bel).mono ?_
      rintro e w3 ⟨v, rfl, h1, h2⟩
      refine ⟨_, rfl, ?_⟩
      obtain ⟨E, q, rfl⟩ := Kd.R_slice h1
      have HN3 := Aside0.mk (HN.out.drew.to h2)
      have hsz3 := h2.size
      have hszd : (wr.drew).heap.size = wr.heap.size := rfl
      have HRW := Aside0.mk (own_ge (w := w) h1 (by have := HSZ.out; omega))
      have HS3 : Aside0 (w.heap.size + 2 ≤ w3.heap.size) := ⟨by have := HSZ.out; omega⟩
      clear h1 h2 hsz3 hszd
      refine hK.out _ _ ((by have h := HN3.out.x1; rw [HE.out.1] at h; exact h)) (fun hHeld => ?_)
      clear hK K
      refine norm_ (a' := ?_) ?_ ?_
      rotate_left
      · show Act.put _ (some 21) _ = _
        simp only [Act.put, List.setIfInBounds_toArray, List.set_cons_zero, List.set_cons_succ, i64_w, i32_w]
        rfl
      refine pure_ (i := 12) (N := some 24) (v := ?_) (a' := ?_) #[true, true, true, true, true, true, true, true, true, true, true, true, true, false, false] rfl rfl (by kernel_rfl) (fun _ _ _ h => h) (Or.inl ⟨by rfl, ?_⟩) ?_ ?_
      rotate_left
      · intro w'
        go_simp
        with_reducible rfl
      rotate_left
      · simp only [Act.put, List.setIfInBounds_toArray, List.set_cons_zero, List.set_cons_succ, i64_w, i32_w]
        rfl
      refine pure_ (i := 13) (N := some 25) (v := ?_) (a' := ?_) #[true, true, true, true, true, true, true, true, true, true, true, true, true, true, false] rfl rfl (by kernel_rfl) (fun _ _ _ h => h) (Or.inl ⟨by rfl, ?_⟩) ?_ ?_
      rotate_left
      · intro w'
        go_simp
        with_reducible rfl
      rotate_left
      · simp only [Act.put, List.setIfInBounds_toArray, List.set_cons_zero, List.set_cons_succ, i64_w, i32_w]
        rfl
      refine last_ (i := 14) (N := none) #[true, true, true, true, true, true, true, true, true, true, true, true, true, true, true] rfl rfl (by kernel_rfl) (by decide) (fun K hK => ?_)
      have hc3 := HN3.out.x1
      have hf3 := HN3.out.f1 1
      refine skip_ (w1 := ?_) (by rfl) rfl ?_ ?_
      rotate_left
      · go_simp
        rfl
      refine hK.out _ _ ?_
      clear hK K
      refine done_ (by kernel_rfl) ?_
      have HN4 := Aside0.mk (HN3.out.put2 HRW.out)
      go_wp2
      go_roundw
      case rel => exact ⟨1, E, q, _, _, by omega, by go_num, HN4, ⟨by have := HS3.out; simpa using this⟩, ⟨fun h => absurd h (by decide), fun _ => HAB.out.2 (by decide)⟩⟩
      case measure => simp [intOf]
    | 1, _ =>
      obtain ⟨rfl, rfl⟩ := HAB.out.2 (by decide)
      have hcx := HN.out.x3
      rw [HE.out.2.1] at hcx
      go_wp2_with fail
      refine start_ (n := 15) (S := fun w' => w'.cell? ⟨w.heap.size + 1, 3, none⟩ = some (.slice B3 n3 d3)) (ds := [14]) #[false, false, false, false, false, false, false, false, false, false, false, false, false, false, false] (by kernel_rfl) rfl rfl ((by have h := HN.out.drew.x3; rw [HE.out.2.1] at h; exact h)) (fun hHeld => ?_)
      refine pure_ (i := 0) (N := some 12) (v := ?_) (a' := ?_) #[true, false, false, false, false, false, false, false, false, false, false, false, false, false, false] rfl rfl (by kernel_rfl) (fun _ _ _ h => h) (Or.inl ⟨by rfl, ?_⟩) ?_ ?_
      rotate_left
      · intro w'
        go_simp
        with_reducible rfl
      rotate_left
      · simp only [Act.put, List.setIfInBounds_toArray, List.set_cons_zero, List.set_cons_succ, i64_w, i32_w]
        rfl
      refine pure_ (i := 1) (N := some 13) (v := ?_) (a' := ?_) #[true, true, false, false, false, false, false, false, false, false, false, false, false, false, false] rfl rfl (by kernel_rfl) (fun _ _ _ h => h) (Or.inl ⟨by rfl, ?_⟩) ?_ ?_
      rotate_left
      · intro w'
        go_simp
        with_reducible rfl
      rotate_left
      · simp only [Act.put, List.setIfInBounds_toArray, List.set_cons_zero, List.set_cons_succ, i64_w, i32_w]
        rfl
      refine pure_ (i := 2) (N := some 14) (v := ?_) (a' := ?_) #[true, true, true, false, false, false, false, false, false, false, false, false, false, false, false] rfl rfl (by kernel_rfl) (fun _ _ _ h => h) (Or.inl ⟨by rfl, ?_⟩) ?_ ?_
      rotate_left
      · intro w'
        go_simp
        with_reducible rfl
      rotate_left
      · simp only [Act.put, List.setIfInBounds_toArray, List.set_cons_zero, List.set_cons_succ, i64_w, i32_w]
        rfl
      refine pure_ (i := 3) (N := some 15) (v := ?_) (a' := ?_) #[true, true, true, true, false, false, false, false, false, false, false, false, false, false, false] rfl rfl (by kernel_rfl) (fun _ _ _ h => h) (Or.inl ⟨by rfl, ?_⟩) ?_ ?_
      rotate_left
      · intro w'
        go_simp
        with_reducible rfl
      rotate_left
      · simp only [Act.put, List.setIfInBounds_toArray, List.set_cons_zero, List.set_cons_succ, i64_w, i32_w]
        rfl
      refine pure_ (i := 4) (N := some 16) (v := ?_) (a' := ?_) #[true, true, true, true, true, false, false, false, false, false, false, false, false, false, false] rfl rfl (by kernel_rfl) (fun _ _ _ h => h) (Or.inl ⟨by rfl, ?_⟩) ?_ ?_
      rotate_left
      · intro w'
        go_simp
        with_reducible rfl
      rotate_left
      · simp only [Act.put, List.setIfInBounds_toArray, List.set_cons_zero, List.set_cons_succ, i64_w, i32_w]
        rfl
      refine pure_ (i := 5) (N := some 17) (v := ?_) (a' := ?_) #[true, true, true, true, true, true, false, false, false, false, false, false, false, false, false] rfl rfl (by kernel_rfl) (fun _ _ _ h => h) (Or.inl ⟨by rfl, ?_⟩) ?_ ?_
      rotate_left
      · intro w'
        go_simp
        with_reducible rfl
      rotate_left
      · simp only [Act.put, List.setIfInBounds_toArray, List.set_cons_zero, List.set_cons_succ, i64_w, i32_w]
        rfl
      refine pure_ (i := 6) (N := some 18) (v := ?_) (a' := ?_) #[true, true, true, true, true, true, true, false, false, false, false, false, false, false, false] rfl rfl (by kernel_rfl) (fun _ _ _ h => h) (Or.inl ⟨by rfl, ?_⟩) ?_ ?_
      rotate_left
      · intro w'
        go_simp
        with_reducible rfl
      rotate_left
      · simp only [Act.put, List.setIfInBounds_toArray, List.set_cons_zero, List.set_cons_succ, i64_w, i32_w]
        rfl
      refine pure_ (i := 7) (N := some 19) (v := ?_) (a' := ?_) #[true, true, true, true, true, true, true, true, false, false, false, false, false, false, false] rfl rfl (by kernel_rfl) (fun _ _ _ h => h) (Or.inl ⟨by rfl, ?_⟩) ?_ ?_
      rotate_left
      · intro w'
        go_simp
        with_reducible rfl
      rotate_left
      · simp only [Act.put, List.setIfInBounds_toArray, List.set_cons_zero, List.set_cons_succ, i64_w, i32_w]
        rfl
      refine pure_ (i := 10) (N := some 22) (v := ?_) (a' := ?_) #[true, true, true, true, true, true, true, true, false, false, true, false, false, false, false] rfl rfl (by kernel_rfl) (fun _ _ _ h => h) (Or.inl ⟨by rfl, ?_⟩) ?_ ?_
      rotate_left
      · intro w'
        go_simp
        with_reducible rfl
      rotate_left
      · simp only [Act.put, List.setIfInBounds_toArray, List.set_cons_zero, List.set_cons_succ, i64_w, i32_w]
        rfl
      refine pure_ (i := 11) (N := some 23) (v := ?_) (a' := ?_) #[true, true, true, true, true, true, true, true, false, false, true, true, false, false, false] rfl rfl (by kernel_rfl) (fun _ _ _ h => h) (Or.inl ⟨by rfl, ?_⟩) ?_ ?_
      rotate_left
      · intro w'
        go_simp
        with_reducible rfl
      rotate_left
      · simp only [Act.put, List.setIfInBounds_toArray, List.set_cons_zero, List.set_cons_succ, i64_w, i32_w]
        rfl
      refine take_ (i := 8) (N := some 20) (v := ?_) (a' := ?_) #[true, true, true, true, true, true, true, true, true, false, true, true, false, false, false] rfl rfl (by kernel_rfl) (fun _ _ _ h => h) (Or.inl ⟨by rfl, ?_⟩) hHeld ?_ ?_
      rotate_left
      · intro w' s0
        go_simp
        with_reducible rfl
      rotate_left
      · simp only [Act.put, List.setIfInBounds_toArray, List.set_cons_zero, List.set_cons_succ, i64_w, i32_w]
        rfl
      refine one_ (i := 9) (N := some 21) #[true, true, true, true, true, true, true, true, true, true, true, true, false, false, false] rfl rfl (by kernel_rfl) (by decide) (fun K hK => ?_)
      refine goes_ Try.func56 (by kernel_rfl) rfl #[.slice B3 n3 d3] (by rfl) rfl rfl (by simp only [List.map_toArray, List.map_cons, List.map_nil]; rfl) ?_
      with_reducible refine (HC3.out _ HN.out.drew.bel).mono ?_
      rintro e w3 ⟨v, rfl, h1, h2⟩
      refine ⟨_, rfl, ?_⟩
      obtain ⟨E, q, rfl⟩ := Kd.R_slice h1
      have HN3 := Aside0.mk (HN.out.drew.to h2)
      have hsz3 := h2.size
      have hszd : (wr.drew).heap.size = wr.heap.size := rfl
      have HRW := Aside0.mk (own_ge (w := w) h1 (by have := HSZ.out; omega))
      have HS3 : Aside0 (w.heap.size + 2 ≤ w3.heap.size) := ⟨by have := HSZ.out; omega⟩
      clear h1 h2 hsz3 hszd
      refine hK.out _ _ ((by have h := HN3.out.x3; rw [HE.out.2.1] at h; exact h)) (fun hHeld => ?_)
      clear hK K
      refine norm_ (a' := ?_) ?_ ?_
      rotate_left
      · show Act.put _ (some 21) _ = _
        simp only [Act.put, List.setIfInBounds_toArray, List.set_cons_zero, List.set_cons_succ, i64_w, i32_w]
        rfl
      refine pure_ (i := 12) (N := some 24) (v := ?_) (a' := ?_) #[true, true, true, true, true, true, true, true, true, true, true, true, true, false, false] rfl rfl (by kernel_rfl) (fun _ _ _ h => h) (Or.inl ⟨by rfl, ?_⟩) ?_ ?_
      rotate_left
      · intro w'
        go_simp
        with_reducible rfl
      rotate_left
      · simp only [Act.put, List.setIfInBounds_toArray, List.set_cons_zero, List.set_cons_succ, i64_w, i32_w]
        rfl
      refine pure_ (i := 13) (N := some 25) (v := ?_) (a' := ?_) #[true, true, true, true, true, true, true, true, true, true, true, true, true, true, false] rfl rfl (by kernel_rfl) (fun _ _ _ h => h) (Or.inl ⟨by rfl, ?_⟩) ?_ ?_
      rotate_left
      · intro w'
        go_simp
        with_reducible rfl
      rotate_left
      · simp only [Act.put, List.setIfInBounds_toArray, List.set_cons_zero, List.set_cons_succ, i64_w, i32_w]
        rfl
      refine last_ (i := 14) (N := none) #[true, true, true, true, true, true, true, true, true, true, true, true, true, true, true] rfl rfl (by kernel_rfl) (by decide) (fun K hK => ?_)
      have hc3 := HN3.out.x3
      have hf3 := HN3.out.f1 3
      refine skip_ (w1 := ?_) (by rfl) rfl ?_ ?_
      rotate_left
      · go_simp
        rfl
      refine hK.out _ _ ?_
      clear hK K
      refine done_ (by kernel_rfl) ?_
      have HN4 := Aside0.mk (HN3.out.put3 HRW.out)
      go_wp2
      go_roundw
      case rel => exact ⟨2, _, _, E, q, by omega, by go_num, HN4, ⟨by have := HS3.out; simpa using this⟩, ⟨fun h => absurd h (by decide), fun h => absurd h (by decide)⟩⟩
      case measure => simp [intOf]
    | 2, _ =>
      go_wp2
      go_ret
      exact ⟨rfl, ⟨⟨B2, d2, B3, d3, HN.out.blk, Kd.R_mono (HN.out.r2 rfl) (fun j hj => ⟨hj, hj⟩), Kd.R_mono (HN.out.r3 rfl) (fun j hj => ⟨hj, hj⟩)⟩, by omega, HN.out.bel⟩⟩
end Go.Proofs.Ytndmdlnmjamgkaa.Core
