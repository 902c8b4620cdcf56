import Derived.Test.YtndmdlnmjamgkaaCoreGreat
import Derived.Test.YtndmdlnmjamgkaaPCx13
/- Package portholeref07 (seat of core): window, windows, chans, Holds, All, Accepts; what they tell, in plain words. Written by wip/coreacc.py. -/
namespace Go.Proofs.Ytndmdlnmjamgkaa.Core
open Go.RowKit Go.Proofs.YtndmdlnmjamgkaaW.PrintWords Go.Proofs.YtndmdlnmjamgkaaW.PrintLast Go.Proofs.YtndmdlnmjamgkaaW.PrintMore Go.Proofs.Ytndmdlnmjamgkaa.PF Go.Proofs.Ytndmdlnmjamgkaa.Frame Go.Proofs.Ytndmdlnmjamgkaa.Box
set_option linter.unusedSimpArgs false
set_option linter.unusedVariables false
structure S69 where
  f0 : Int
  f1 : Int
def z69 : S69 := ⟨(0 : Int), (0 : Int)⟩
def k69 : Kd S69 := Kd.iso (Kd.pair (Kd.int .i64) (Kd.int .i64)) (fun x : S69 => (x.f0, x.f1))
theorem k69_open {w : World} {x : S69} {cs : List Value} (h : k69.K w x cs) : cs = [.int .i64 x.f0, .int .i64 x.f1] := by
  obtain ⟨_, _, rfl, rfl, rfl⟩ := h
  exact rfl
def rd_T69 (xs : List S69) (i : Int) : S69 := xs.getD i.toNat z69
theorem at_T69 {w : World} {A : Option Addr} {n : Nat} {xs : List S69} (h : Kd.C k69 w A n xs) (i : Int) (h0 : 0 ≤ i) (h1 : i < n) : ∃ ad , A = some ad ∧ w.cell? (ad.add (i.toNat * 2)) = some (.int .i64 (rd_T69 xs i).f0) ∧ w.cell? ⟨(ad.add (i.toNat * 2)).block, (ad.add (i.toNat * 2)).off + 1, none⟩ = some (.int .i64 (rd_T69 xs i).f1) := by
  obtain ⟨ad, c, e, _, hK, hc0⟩ := Kd.C_get h z69 i h0 h1
  have hc : ∀ j u, c[j]? = some u → w.cell? (ad.add (i.toNat * 2 + j)) = some u := hc0
  obtain rfl := k69_open hK
  exact ⟨ad, e, hc 0 _ rfl, by rw [← add_field _ _ 1 (by omega)]; exact hc 1 _ rfl⟩
structure S87 where
  f0 : Int
  f1 : Int
  f2 : Int
  f3 : Int
  f4 : Int
  f5 : Int
  f6 : Int
def z87 : S87 := ⟨(0 : Int), (0 : Int), (0 : Int), (0 : Int), (0 : Int), (0 : Int), (0 : Int)⟩
def k87 : Kd S87 := Kd.iso (Kd.pair (Kd.int .i64) (Kd.pair (Kd.int .i64) (Kd.pair (Kd.int .i64) (Kd.pair (Kd.int .i64) (Kd.pair (Kd.int .i64) (Kd.pair (Kd.int .i64) (Kd.int .u32))))))) (fun x : S87 => (x.f0, x.f1, x.f2, x.f3, x.f4, x.f5, x.f6))
theorem k87_open {w : World} {x : S87} {cs : List Value} (h : k87.K w x cs) : cs = [.int .i64 x.f0, .int .i64 x.f1, .int .i64 x.f2, .int .i64 x.f3, .int .i64 x.f4, .int .i64 x.f5, .int .u32 x.f6] := by
  obtain ⟨_, _, rfl, rfl, ⟨_, _, rfl, rfl, ⟨_, _, rfl, rfl, ⟨_, _, rfl, rfl, ⟨_, _, rfl, rfl, ⟨_, _, rfl, rfl, rfl⟩⟩⟩⟩⟩⟩ := h
  exact rfl
def rd_T87 (xs : List S87) (i : Int) : S87 := xs.getD i.toNat z87
theorem at_T87 {w : World} {A : Option Addr} {n : Nat} {xs : List S87} (h : Kd.C k87 w A n xs) (i : Int) (h0 : 0 ≤ i) (h1 : i < n) : ∃ ad , A = some ad ∧ w.cell? (ad.add (i.toNat * 7)) = some (.int .i64 (rd_T87 xs i).f0) ∧ w.cell? ⟨(ad.add (i.toNat * 7)).block, (ad.add (i.toNat * 7)).off + 1, none⟩ = some (.int .i64 (rd_T87 xs i).f1) ∧ w.cell? ⟨(ad.add (i.toNat * 7)).block, (ad.add (i.toNat * 7)).off + 2, none⟩ = some (.int .i64 (rd_T87 xs i).f2) ∧ w.cell? ⟨(ad.add (i.toNat * 7)).block, (ad.add (i.toNat * 7)).off + 3, none⟩ = some (.int .i64 (rd_T87 xs i).f3) ∧ w.cell? ⟨(ad.add (i.toNat * 7)).block, (ad.add (i.toNat * 7)).off + 4, none⟩ = some (.int .i64 (rd_T87 xs i).f4) ∧ w.cell? ⟨(ad.add (i.toNat * 7)).block, (ad.add (i.toNat * 7)).off + 5, none⟩ = some (.int .i64 (rd_T87 xs i).f5) ∧ w.cell? ⟨(ad.add (i.toNat * 7)).block, (ad.add (i.toNat * 7)).off + 6, none⟩ = some (.int .u32 (rd_T87 xs i).f6) := by
  obtain ⟨ad, c, e, _, hK, hc0⟩ := Kd.C_get h z87 i h0 h1
  have hc : ∀ j u, c[j]? = some u → w.cell? (ad.add (i.toNat * 7 + j)) = some u := hc0
  obtain rfl := k87_open hK
  exact ⟨ad, e, hc 0 _ rfl, by rw [← add_field _ _ 1 (by omega)]; exact hc 1 _ rfl, by rw [← add_field _ _ 2 (by omega)]; exact hc 2 _ rfl, by rw [← add_field _ _ 3 (by omega)]; exact hc 3 _ rfl, by rw [← add_field _ _ 4 (by omega)]; exact hc 4 _ rfl, by rw [← add_field _ _ 5 (by omega)]; exact hc 5 _ rfl, by rw [← add_field _ _ 6 (by omega)]; exact hc 6 _ rfl⟩
/-- An answer of which this is known. -/
structure Tells (P : Bool → Prop) (w : World) (e : Ending) (w' : World) : Prop where
  all : ∃ b, e = .returned (.bool b) ∧ P b
  bel : Below w.heap.size w w'
/-- A window of these is the partition's. -/
def inW (ws : List S46) (n : Nat) (p : Int) : Prop := ∃ i : Int, 0 ≤ i ∧ i < n ∧ (rd_T46 ws i).f0 = p
set_option maxRecDepth 20000 in
set_option maxHeartbeats 4000000 in
theorem window_calls (W : World) (Ap : Option Addr) (np cp : Nat) (Ax : Option Addr) (nx cx : Nat) (l0 : Int) (A2 : Option Addr) (n2 c2 : Nat) (l1 : Int) (A3 : Option Addr) (n3 c3 : Nat) (ps : List S69) (ws0 ws1 : List S46) (hp : Kd.C k69 W Ap np ps) (h2 : Kd.C k46 W A2 n2 ws0) (h3 : Kd.C k46 W A3 n3 ws1) (hm2 : n2 ≤ 1000000) (hm3 : n3 ≤ 1000000) (p : Int) (hp0 : 0 ≤ p) (hp1 : p < np) :
    Calls Try.prog 59 #[.agg #[.slice Ap np cp, .slice Ax nx cx, .int .i64 l0, .slice A2 n2 c2, .int .i64 l1, .slice A3 n3 c3], .int .i64 p] W fun e w' => Tells (fun b => b = true → ((rd_T69 ps p).f0 = 0 ∧ inW ws0 n2 p) ∨ ((rd_T69 ps p).f0 = 1 ∧ inW ws1 n3 p)) W e w' := by
  have hb := below_alloc (Below.refl _ W) (.cells #[.slice Ap np cp, .slice Ax nx cx, .int .i64 l0, .slice A2 n2 c2, .int .i64 l1, .slice A3 n3 c3] 61)
  obtain ⟨ad, rfl, hc0, hc1⟩ := at_T69 (Kd.C_below hp hb) p hp0 hp1
  have HB := Aside0.mk hb
  have H2 := Aside0.mk h2
  have H3 := Aside0.mk h3
  clear hp h2 h3 hb
  have hd : decide (p < (np : Int)) = true := decide_eq_true hp1
  obtain ⟨core, hco⟩ : ∃ c, (rd_T69 ps p).f0 = c := ⟨_, rfl⟩
  rw [hco] at hc0
  have HC := Aside0.mk hco
  rw [hco]
  clear hco hc1 hd
  by_cases g0 : core = 0
  · subst g0
    have HC : Aside0 ((0 : Int) = 0) := ⟨rfl⟩
    go_enter Try.func59, Try.ntmps59
    go_wp2_with fail
    go_loopw [6] (fun v wr => ∃ x : Int, 0 ≤ x ∧ x ≤ n2 ∧ v = .int .i64 x ∧ Aside0 (Below W.heap.size W wr)) (fun v _ => (n2 - (intOf v)).toNat)
    case atStart => exact ⟨0, by omega, by omega, rfl, HB⟩
    case round =>
      clear HB hc0
      obtain ⟨x, hx0, hx1, rfl, HB⟩ := hrel
      by_cases hlt : x < (n2 : Int)
      · have hd : decide (x < (n2 : Int)) = true := decide_eq_true hlt
        obtain ⟨a2, rfl, d0, d1, d2⟩ := at_T46 (Kd.C_below H2.out HB.out) x hx0 hlt
        obtain ⟨q, hq⟩ : ∃ q, (rd_T46 ws0 x).f0 = q := ⟨_, rfl⟩
        rw [hq] at d0
        have HQ := Aside0.mk hq
        clear hq d1 d2
        by_cases hqp : q = p
        · have e1 : (q == p) = true := by simp [hqp]
          have HP : Aside0 (inW ws0 n2 p) := ⟨⟨x, hx0, hlt, HQ.out.trans hqp⟩⟩
          clear hqp HQ
          go_wp2
          go_ret
          exact ⟨⟨true, rfl, fun _ => .inl ⟨HC.out, HP.out⟩⟩, HB.out⟩
        · have e1 : (q == p) = false := by simp [hqp]
          have hw1 : wrap64 (x + 1) = x + 1 := by unfold wrap64; omega
          clear hqp HQ
          go_wp2
          go_roundw
          case rel => exact ⟨x + 1, by omega, by omega, by go_num, HB⟩
          case measure => simp [intOf]; omega
      · have hd : decide (x < (n2 : Int)) = false := decide_eq_false hlt
        go_wp2
        go_ret
        exact ⟨⟨false, rfl, fun h => by cases h⟩, HB.out⟩
  · by_cases g1 : core = 1
    · subst g1
      have HC : Aside0 ((1 : Int) = 1) := ⟨rfl⟩
      clear g0
      go_enter Try.func59, Try.ntmps59
      go_wp2_with fail
      go_loopw [6] (fun v wr => ∃ x : Int, 0 ≤ x ∧ x ≤ n3 ∧ v = .int .i64 x ∧ Aside0 (Below W.heap.size W wr)) (fun v _ => (n3 - (intOf v)).toNat)
      case atStart => exact ⟨0, by omega, by omega, rfl, HB⟩
      case round =>
        clear HB hc0
        obtain ⟨x, hx0, hx1, rfl, HB⟩ := hrel
        by_cases hlt : x < (n3 : Int)
        · have hd : decide (x < (n3 : Int)) = true := decide_eq_true hlt
          obtain ⟨a2, rfl, d0, d1, d2⟩ := at_T46 (Kd.C_below H3.out HB.out) x hx0 hlt
          obtain ⟨q, hq⟩ : ∃ q, (rd_T46 ws1 x).f0 = q := ⟨_, rfl⟩
          rw [hq] at d0
          have HQ := Aside0.mk hq
          clear hq d1 d2
          by_cases hqp : q = p
          · have e1 : (q == p) = true := by simp [hqp]
            have HP : Aside0 (inW ws1 n3 p) := ⟨⟨x, hx0, hlt, HQ.out.trans hqp⟩⟩
            clear hqp HQ
            go_wp2
            go_ret
            exact ⟨⟨true, rfl, fun _ => .inr ⟨HC.out, HP.out⟩⟩, HB.out⟩
          · have e1 : (q == p) = false := by simp [hqp]
            have hw1 : wrap64 (x + 1) = x + 1 := by unfold wrap64; omega
            clear hqp HQ
            go_wp2
            go_roundw
            case rel => exact ⟨x + 1, by omega, by omega, by go_num, HB⟩
            case measure => simp [intOf]; omega
        · have hd : decide (x < (n3 : Int)) = false := decide_eq_false hlt
          go_wp2
          go_ret
          exact ⟨⟨false, rfl, fun h => by cases h⟩, HB.out⟩
    · have e0 : (core != 0) = true := by simp [g0]
      have e1 : (core != 1) = true := by simp [g1]
      clear g0 g1
      go_enter Try.func59, Try.ntmps59
      go_wp2
      go_ret
      exact ⟨⟨false, rfl, fun h => by cases h⟩, HB.out⟩
/-- So it is for all ahead of x. -/
def allTo (P : Int → Prop) (x : Int) : Prop := ∀ i, 0 ≤ i → i < x → P i
theorem allTo_zero (P : Int → Prop) : allTo P 0 := fun i h0 h1 => absurd h1 (by omega)
theorem allTo_succ {P : Int → Prop} {x : Int} (h : allTo P x) (hx : P x) : allTo P (x + 1) := fun i h0 h1 => by
  by_cases e : i = x
  · exact e ▸ hx
  · exact h i h0 (by omega)
/-- A word. -/
def wd (n : Int) : Prop := 0 ≤ n ∧ n ≤ 4294967295
instance (n : Int) : Decidable (wd n) := inferInstanceAs (Decidable (_ ∧ _))
/-- What the windows' defects 14, 15, 16 are not. -/
def W14 (ps : List S69) (np : Nat) (ws : List S46) (f : Int) (i : Int) : Prop := (0 ≤ (rd_T46 ws i).f0 ∧ (rd_T46 ws i).f0 < np) ∧ (rd_T69 ps (rd_T46 ws i).f0).f0 = f
def W15 (l : Int) (ws : List S46) (i : Int) : Prop := 0 ≤ (rd_T46 ws i).f1 ∧ 1 ≤ (rd_T46 ws i).f2 ∧ (rd_T46 ws i).f1 ≤ l ∧ (rd_T46 ws i).f2 ≤ wrap64 (l - (rd_T46 ws i).f1)
def W16 (ws : List S46) (i : Int) : Prop := 0 < i → wd (rd_T46 ws i).f1 → wd (rd_T46 ws (i - 1)).f1 → wd (rd_T46 ws (i - 1)).f2 → wrap64 ((rd_T46 ws (i - 1)).f1 + (rd_T46 ws (i - 1)).f2) ≤ (rd_T46 ws i).f1
theorem word_calls (a : Int) (w : World) : Calls Try.prog 63 #[.int .i64 a] w fun e w' => e = .returned (.bool (decide (wd a))) ∧ Drawn0 w w' := by
  refine PC.portholeref07_word.calls a _ w ?_
  unfold PC.portholeref07_word.f
  by_cases h : a ≥ 0
  · rw [if_pos h]
    exact congrArg some (decide_eq_decide.mpr ⟨fun e => ⟨h, e⟩, fun e => e.2⟩)
  · rw [if_neg h]
    exact congrArg some (decide_eq_false (fun e => h e.1)).symm
set_option maxRecDepth 20000 in
set_option maxHeartbeats 8000000 in
theorem windows120_calls (W : World) (Ap : Option Addr) (np cp : Nat) (Ax : Option Addr) (nx cx : Nat) (l0 : Int) (A2 : Option Addr) (n2 c2 : Nat) (l1 : Int) (A3 : Option Addr) (n3 c3 : Nat) (ps : List S69) (ws0 ws1 : List S46) (hp : Kd.C k69 W Ap np ps) (h2 : Kd.C k46 W A2 n2 ws0) (h3 : Kd.C k46 W A3 n3 ws1) (hm2 : n2 ≤ 1000000) (hm3 : n3 ≤ 1000000) :
    Calls Try.prog 61 #[.agg #[.slice Ap np cp, .slice Ax nx cx, .int .i64 l0, .slice A2 n2 c2, .int .i64 l1, .slice A3 n3 c3], .int .i64 0, .int .i64 12] W fun e w' => Tells (fun b => b = false → 1 ≤ l0 ∧ l0 ≤ 64) W e w' := by
  have HB := Aside0.mk (below_alloc (Below.refl _ W) (.cells #[.slice Ap np cp, .slice Ax nx cx, .int .i64 l0, .slice A2 n2 c2, .int .i64 l1, .slice A3 n3 c3] 61))
  by_cases h : l0 < 1
  · have e0 : decide (l0 < 1) = true := decide_eq_true h
    clear h
    go_enter Try.func61, Try.ntmps61
    go_wp2
    go_ret
    exact ⟨⟨true, rfl, fun h => by cases h⟩, HB.out⟩
  · have e0 : decide (l0 < 1) = false := decide_eq_false h
    by_cases h1 : 64 < l0
    · have e1 : decide (64 < l0) = true := decide_eq_true h1
      clear h h1
      go_enter Try.func61, Try.ntmps61
      go_wp2
      go_ret
      exact ⟨⟨true, rfl, fun h => by cases h⟩, HB.out⟩
    · have e1 : decide (64 < l0) = false := decide_eq_false h1
      have HP : Aside0 (1 ≤ l0 ∧ l0 ≤ 64) := ⟨by omega⟩
      clear h h1
      go_enter Try.func61, Try.ntmps61
      go_wp2
      go_ret
      exact ⟨⟨false, rfl, fun _ => HP.out⟩, HB.out⟩
set_option maxRecDepth 20000 in
set_option maxHeartbeats 8000000 in
theorem windows121_calls (W : World) (Ap : Option Addr) (np cp : Nat) (Ax : Option Addr) (nx cx : Nat) (l0 : Int) (A2 : Option Addr) (n2 c2 : Nat) (l1 : Int) (A3 : Option Addr) (n3 c3 : Nat) (ps : List S69) (ws0 ws1 : List S46) (hp : Kd.C k69 W Ap np ps) (h2 : Kd.C k46 W A2 n2 ws0) (h3 : Kd.C k46 W A3 n3 ws1) (hm2 : n2 ≤ 1000000) (hm3 : n3 ≤ 1000000) :
    Calls Try.prog 61 #[.agg #[.slice Ap np cp, .slice Ax nx cx, .int .i64 l0, .slice A2 n2 c2, .int .i64 l1, .slice A3 n3 c3], .int .i64 1, .int .i64 12] W fun e w' => Tells (fun b => b = false → 1 ≤ l1 ∧ l1 ≤ 64) W e w' := by
  have HB := Aside0.mk (below_alloc (Below.refl _ W) (.cells #[.slice Ap np cp, .slice Ax nx cx, .int .i64 l0, .slice A2 n2 c2, .int .i64 l1, .slice A3 n3 c3] 61))
  by_cases h : l1 < 1
  · have e0 : decide (l1 < 1) = true := decide_eq_true h
    clear h
    go_enter Try.func61, Try.ntmps61
    go_wp2
    go_ret
    exact ⟨⟨true, rfl, fun h => by cases h⟩, HB.out⟩
  · have e0 : decide (l1 < 1) = false := decide_eq_false h
    by_cases h1 : 64 < l1
    · have e1 : decide (64 < l1) = true := decide_eq_true h1
      clear h h1
      go_enter Try.func61, Try.ntmps61
      go_wp2
      go_ret
      exact ⟨⟨true, rfl, fun h => by cases h⟩, HB.out⟩
    · have e1 : decide (64 < l1) = false := decide_eq_false h1
      have HP : Aside0 (1 ≤ l1 ∧ l1 ≤ 64) := ⟨by omega⟩
      clear h h1
      go_enter Try.func61, Try.ntmps61
      go_wp2
      go_ret
      exact ⟨⟨false, rfl, fun _ => HP.out⟩, HB.out⟩
set_option maxRecDepth 20000 in
set_option maxHeartbeats 8000000 in
theorem windows130_calls (W : World) (Ap : Option Addr) (np cp : Nat) (Ax : Option Addr) (nx cx : Nat) (l0 : Int) (A2 : Option Addr) (n2 c2 : Nat) (l1 : Int) (A3 : Option Addr) (n3 c3 : Nat) (ps : List S69) (ws0 ws1 : List S46) (hp : Kd.C k69 W Ap np ps) (h2 : Kd.C k46 W A2 n2 ws0) (h3 : Kd.C k46 W A3 n3 ws1) (hm2 : n2 ≤ 1000000) (hm3 : n3 ≤ 1000000) :
    Calls Try.prog 61 #[.agg #[.slice Ap np cp, .slice Ax nx cx, .int .i64 l0, .slice A2 n2 c2, .int .i64 l1, .slice A3 n3 c3], .int .i64 0, .int .i64 13] W fun e w' => Tells (fun b => b = false → (n2 : Int) ≤ 16) W e w' := by
  have HB := Aside0.mk (below_alloc (Below.refl _ W) (.cells #[.slice Ap np cp, .slice Ax nx cx, .int .i64 l0, .slice A2 n2 c2, .int .i64 l1, .slice A3 n3 c3] 61))
  by_cases h : (16 : Int) < (n2 : Int)
  · have e0 : decide ((16 : Int) < (n2 : Int)) = true := decide_eq_true h
    clear h
    go_enter Try.func61, Try.ntmps61
    go_wp2
    go_ret
    exact ⟨⟨true, rfl, fun h => by cases h⟩, HB.out⟩
  · have e0 : decide ((16 : Int) < (n2 : Int)) = false := decide_eq_false h
    have HP : Aside0 ((n2 : Int) ≤ 16) := ⟨by omega⟩
    clear h
    go_enter Try.func61, Try.ntmps61
    go_wp2
    go_ret
    exact ⟨⟨false, rfl, fun _ => HP.out⟩, HB.out⟩
set_option maxRecDepth 20000 in
set_option maxHeartbeats 8000000 in
theorem windows131_calls (W : World) (Ap : Option Addr) (np cp : Nat) (Ax : Option Addr) (nx cx : Nat) (l0 : Int) (A2 : Option Addr) (n2 c2 : Nat) (l1 : Int) (A3 : Option Addr) (n3 c3 : Nat) (ps : List S69) (ws0 ws1 : List S46) (hp : Kd.C k69 W Ap np ps) (h2 : Kd.C k46 W A2 n2 ws0) (h3 : Kd.C k46 W A3 n3 ws1) (hm2 : n2 ≤ 1000000) (hm3 : n3 ≤ 1000000) :
    Calls Try.prog 61 #[.agg #[.slice Ap np cp, .slice Ax nx cx, .int .i64 l0, .slice A2 n2 c2, .int .i64 l1, .slice A3 n3 c3], .int .i64 1, .int .i64 13] W fun e w' => Tells (fun b => b = false → (n3 : Int) ≤ 16) W e w' := by
  have HB := Aside0.mk (below_alloc (Below.refl _ W) (.cells #[.slice Ap np cp, .slice Ax nx cx, .int .i64 l0, .slice A2 n2 c2, .int .i64 l1, .slice A3 n3 c3] 61))
  by_cases h : (16 : Int) < (n3 : Int)
  · have e0 : decide ((16 : Int) < (n3 : Int)) = true := decide_eq_true h
    clear h
    go_enter Try.func61, Try.ntmps61
    go_wp2
    go_ret
    exact ⟨⟨true, rfl, fun h => by cases h⟩, HB.out⟩
  · have e0 : decide ((16 : Int) < (n3 : Int)) = false := decide_eq_false h
    have HP : Aside0 ((n3 : Int) ≤ 16) := ⟨by omega⟩
    clear h
    go_enter Try.func61, Try.ntmps61
    go_wp2
    go_ret
    exact ⟨⟨false, rfl, fun _ => HP.out⟩, HB.out⟩
end Go.Proofs.Ytndmdlnmjamgkaa.Core
