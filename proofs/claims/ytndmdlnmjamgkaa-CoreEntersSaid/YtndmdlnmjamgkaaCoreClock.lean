import Derived.Test.YtndmdlnmjamgkaaCoreLaw
/- Package portholelaw15: clock, and what each of CoreFair, CoreEnters does first. Written by wip/corefair.py. -/
namespace Go.Proofs.Ytndmdlnmjamgkaa.Core
open Go.RowKit Go.Proofs.YtndmdlnmjamgkaaW.PrintWords Go.Proofs.YtndmdlnmjamgkaaW.PrintLast Go.Proofs.YtndmdlnmjamgkaaW.PrintMore Go.Proofs.Ytndmdlnmjamgkaa.PF Go.Proofs.Ytndmdlnmjamgkaa.Frame Go.Proofs.Ytndmdlnmjamgkaa.Box
set_option linter.unusedSimpArgs false
set_option linter.unusedVariables false
/-- The box with the configuration, and what was there before. -/
structure BB (w W : World) (cs : Array Value) : Prop where
  blk : W.heap[w.heap.size]? = some (.cells cs 61 (0, 0))
  bel : Below w.heap.size w W
theorem BB.to {w W W' : World} {cs : Array Value} (h : BB w W cs) (hb : Below W.heap.size W W') : BB w W' cs := ⟨blk_below h.blk hb, h.bel.trans (hb.mono h.bel.size)⟩
theorem BB.keep {w W W' : World} {cs : Array Value} {g : Nat} (h : BB w W cs) (hk : KeepBut W W' g none) (hb : Below w.heap.size w W') (hne : w.heap.size ≠ g) : BB w W' cs := ⟨hk.blk h.blk hne (by simp), hb⟩
theorem BB.far {w W : World} {cs : Array Value} {g : Nat} (h : BB w W cs) (hg : w.heap.size < g) (i : Nat) (v : Value) : BB w (W.setCell ⟨g, i, none⟩ v) cs := ⟨(Below.heap_setCell W ⟨g, i, none⟩ v _ (Nat.ne_of_lt hg)).trans h.blk, below_set h.bel (Nat.le_of_lt hg)⟩
theorem wrap_n {x L : Int} (h0 : 0 ≤ x) (h : x ≤ L) (hL : L ≤ 1000000) : wrap64 (x + 1) = x + 1 := by unfold wrap64; omega
theorem wrap_add {v x L : Int} {i : Nat} (h : 0 ≤ v ∧ v ≤ (i : Int)) (hx : x = (i : Int)) (hi : x ≤ L) (hL : L ≤ 1000000) : wrap64 (v + 1) = v + 1 := by unfold wrap64; omega
theorem wrap_sub {v a : Int} (h : (0 ≤ v ∧ v ≤ 64) ∧ 1 ≤ a ∧ a ≤ 64) : wrap64 (v - a) = v - a := by unfold wrap64; omega
theorem now_ok {n L x : Int} (hn : 0 ≤ n ∧ n ≤ 255) (h0 : 0 ≤ x) (hi : x ≤ L) (hL : 0 ≤ L ∧ L ≤ 64) : 0 ≤ n + x ∧ n + x ≤ 1000000 := by omega
theorem nat_of {q : Int} (h : 0 ≤ q) : ∃ k : Nat, q = (k : Int) := ⟨q.toNat, by omega⟩
theorem nat_lt {j m : Nat} {x : Int} (hx : x = (j : Int)) (h : x < (m : Int)) : j < m := by omega
theorem nat_ge {j m : Nat} {x : Int} (hx : x = (j : Int)) (h : ¬ x < (m : Int)) : m ≤ j := by omega
theorem nat_at {i : Nat} {x L : Int} (hx : x = (i : Int)) (h1 : x ≤ L) (h2 : ¬ x < L) : i = L.toNat := by omega
theorem who0 (f : Fr) (t : Int) : whoV f t 0 = At f.l0 f.ws0 t := by rw [whoV, if_pos rfl]
theorem who1 (f : Fr) (t : Int) : whoV f t 1 = At f.l1 f.ws1 t := by rw [whoV, if_neg (by decide), if_pos rfl]
theorem whoc_calls {w W : World} {g x : Nat} {f : Fr} {now : Int} (h : IsCk w W g f now x) (core : Int) {q : Int} {ok : Bool} (hr : whoV f now core = (q, ok)) : Calls Try.prog 43 #[.pointer (some ⟨g, 0, none⟩), .int .i64 core] W fun e w' => e = .returned (.tuple #[.int .i64 q, .bool ok]) ∧ IsCk w w' g f now x ∧ Below W.heap.size W w' := by
  have h1 := who_calls h core
  rw [hr] at h1
  exact h1
/-- A clock came back. -/
structure Clk (X : World) (f : Fr) (n : Int) (e : Ending) (w' : World) : Prop where
  all : ∃ g, e = .returned (.pointer (some ⟨g, 0, none⟩)) ∧ X.heap.size < g ∧ IsCk X w' g f n
set_option maxRecDepth 20000 in
set_option maxHeartbeats 8000000 in
theorem clock_calls (w : World) (Ap : Option Addr) (np cp : Nat) (Ax : Option Addr) (nx cx : Nat) (f : Fr) (A2 : Option Addr) (c2 : Nat) (A3 : Option Addr) (c3 : Nat) (hl2 : f.ws0.length ≤ c2) (hl3 : f.ws1.length ≤ c3) (h2 : Kd.C k46 w A2 f.ws0.length f.ws0) (h3 : Kd.C k46 w A3 f.ws1.length f.ws1) (q2 : f.ws0.length ≤ 1000000) (q3 : f.ws1.length ≤ 1000000) (n : Int) (hn : 0 ≤ n ∧ n ≤ 1000) :
    Calls Try.prog 44 #[.agg #[.slice Ap np cp, .slice Ax nx cx, .int .i64 f.l0, .slice A2 f.ws0.length c2, .int .i64 f.l1, .slice A3 f.ws1.length c3], .int .i64 n] w fun e w' => Clk w f n e w' := by
  have HNW := Aside0.mk (fun (X : World) (hX : Below w.heap.size w X) => new_calls X Ap np cp Ax nx cx f A2 c2 A3 c3 hl2 hl3 (Kd.C_below h2 hX) (Kd.C_below h3 hX) q2 q3)
  have HB0 : Aside0 (BB w (w.alloc (.cells #[.slice Ap np cp, .slice Ax nx cx, .int .i64 f.l0, .slice A2 f.ws0.length c2, .int .i64 f.l1, .slice A3 f.ws1.length c3] 61)) #[.slice Ap np cp, .slice Ax nx cx, .int .i64 f.l0, .slice A2 f.ws0.length c2, .int .i64 f.l1, .slice A3 f.ws1.length c3]) := ⟨⟨blk_new w _, below_alloc (Below.refl _ w) _⟩⟩
  clear hl2 hl3 h2 h3 q2 q3
  obtain ⟨n2, hn2⟩ : ∃ n, f.ws0.length = n := ⟨_, rfl⟩
  obtain ⟨n3, hn3⟩ : ∃ n, f.ws1.length = n := ⟨_, rfl⟩
  obtain ⟨l0, hl0⟩ : ∃ n, f.l0 = n := ⟨_, rfl⟩
  obtain ⟨l1, hl1⟩ : ∃ n, f.l1 = n := ⟨_, rfl⟩
  rw [hn2, hn3, hl0, hl1] at HNW HB0 ⊢
  clear hn2 hn3 hl0 hl1
  obtain ⟨hn0, hn1⟩ := hn
  have ha0 := (blk_cell HB0.out.blk 0).trans rfl
  have ha1 := (blk_cell HB0.out.blk 1).trans rfl
  have ha2 := (blk_cell HB0.out.blk 2).trans rfl
  have ha3 := (blk_cell HB0.out.blk 3).trans rfl
  have ha4 := (blk_cell HB0.out.blk 4).trans rfl
  have ha5 := (blk_cell HB0.out.blk 5).trans rfl
  go_enter Try.func44, Try.ntmps44
  go_wp2_with fail
  refine (HNW.out _ HB0.out.bel).mono ?_
  rintro e w5 ⟨rfl, hck⟩
  have HC5 := Aside0.mk (hck.low HB0.out.bel)
  have HG : Aside0 (w.heap.size < (w.alloc (.cells #[.slice Ap np cp, .slice Ax nx cx, .int .i64 l0, .slice A2 n2 c2, .int .i64 l1, .slice A3 n3 c3] 61)).heap.size + 1) := ⟨by have := HB0.out.bel.size; omega⟩
  clear hck HB0 ha0 ha1 ha2 ha3 ha4 ha5 HNW
  generalize (w.alloc (.cells #[.slice Ap np cp, .slice Ax nx cx, .int .i64 l0, .slice A2 n2 c2, .int .i64 l1, .slice A3 n3 c3] 61)).heap.size + 1 = g at *
  go_wp2_with fail
  go_loopw [11] (fun v wr => ∃ x : Int, 0 ≤ x ∧ x ≤ n ∧ v = .int .i64 x ∧ Aside0 (IsCk w wr g f x)) (fun v _ => (n - intOf v).toNat)
  case atStart => exact ⟨0, by omega, by omega, rfl, HC5⟩
  case round =>
    clear HC5
    obtain ⟨x, hx0, hx1, rfl, HC⟩ := hrel
    by_cases hlt : x < n
    · have hd : decide (x < n) = true := decide_eq_true hlt
      have hw1 : wrap64 (x + 1) = x + 1 := by unfold wrap64; omega
      go_wp2_with fail
      refine (tick_calls HC.out ⟨by omega, by omega⟩).mono ?_
      rintro e wt ⟨At, nt, ct, rfl, ho, hck, hkb, hbw⟩
      have HCt := Aside0.mk hck
      clear ho hck hkb hbw HC
      go_wp2
      go_roundw
      case rel => exact ⟨x + 1, by omega, by omega, by go_num, HCt⟩
      case measure => simp [intOf]; omega
    · obtain rfl : x = n := by omega
      have hd : decide (x < x) = false := decide_eq_false (by omega)
      go_wp2
      go_ret
      exact ⟨⟨g, rfl, HG.out, HC.out⟩⟩
end Go.Proofs.Ytndmdlnmjamgkaa.Core
