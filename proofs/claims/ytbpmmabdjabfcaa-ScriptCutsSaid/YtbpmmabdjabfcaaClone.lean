import Derived.Test.YtbpmmabdjabfcaaBox
import Derived.OwnWalk
import Derived.WalkSpells
/- slices.Clone at []uint32: a row of the call's own with the same words. -/
namespace Go.Proofs.Ytbpmmabdjabfcaa.Box
open Go.RowKit Go.Proofs.YtbpmmabdjabfcaaW.PrintWords Go.Proofs.YtbpmmabdjabfcaaW.PrintMore
theorem info_u32 : (Try.prog.info? 43).map (fun i => (i.zero, i.size, i.bytes)) = some (some (.int .u32 0), 1, 4) := by kernel_rfl
theorem R_void {α : Type} (d : Kd α) (e : Nat) (w : World) : Kd.R d e (w.alloc (.cells #[] e)) w.heap.size (fun _ => True) (.slice (some ⟨w.heap.size, 0, none⟩) 0 0) [] := by
  refine ⟨fun _ _ => trivial, [], ?_, Reps.none _ _⟩
  have h2 := World.ownsRow_lit (base := w.heap.size) (e := e) (size := d.sz) w #[] 0 (Nat.le_refl _) (by simp [maxLen]) (by simp)
  simpa using h2
set_option maxHeartbeats 400000 in
theorem clone_u32 (A : Option Addr) (n c : Nat) (l : List Int) (w : World) (hnl : n = l.length) (hr : Kd.C (Kd.int .u32) w A l.length l) (hl : l.length * 4 ≤ 140737488355328) :
    Calls Try.prog 81 #[.slice A n c] w fun e w' => ∃ v, e = .returned v ∧ Kd.R (Kd.int .u32) 43 w' w.heap.size (fun _ => True) v l ∧ Below w.heap.size w w' := by
  subst hnl
  have hu22 := Try.underlying22
  cases A with
  | none =>
    obtain rfl : l = [] := by
      cases l with
      | nil => rfl
      | cons x r => obtain ⟨ad, h, _⟩ := hr.2.2 (by simp); cases h
    have hn := fun (w : World) => Lib.run_eql_slice_nil (P := Try.prog) w 22 43 none 0 c 0 0 hu22
    clear hr hl
    go_enter Try.func81, Try.ntmps81
    go_wp2
    go_ret
    exact ⟨_, rfl, Kd.R_nil _ _ _ _ _, Below.refl _ _⟩
  | some ad =>
    have hn := fun (w : World) => Lib.run_eql_slice_nil (P := Try.prog) w 22 43 (some ad) l.length c 0 0 hu22
    have HR := Aside0.mk hr
    clear hr
    go_enter Try.func81, Try.ntmps81
    go_wp2_with (at_builtin; refine Kd.R_append_rows (Kd.int .u32) (w0 := w) w.heap.size rfl (.tmp 5) (.tmp 6) 22 43 (.int .u32 0) 4 rfl hu22 info_u32 rfl (by decide) (by omega) (.slice (some ⟨w.heap.size, 0, none⟩) 0 0) ([] : List Int) l _ _ _ (fun _ => True) (fun _ => False) rfl rfl ?aO ?aR (fun _ _ h => h) (fun _ h => h.elim) ?aF ?aB ?aS ?aL ?_)
    case aO => exact R_void _ _ _
    case aR => exact Kd.C_alloc HR.out _
    case aF => exact fun _ _ => trivial
    case aB => exact below_alloc (Below.refl _ _) _
    case aS => simp
    case aL => simpa using hl
    intro v1 w1 h1 h2 h3 h4
    go_wp2
    go_ret
    exact ⟨v1, rfl, by simpa using h1, h2⟩

/-- A row made from base on isn't touched by a store into an elder block. -/
theorem R_elder {α : Type} {d : Kd α} {e : Nat} {w : World} {base : Nat} {ok : Nat → Prop} {v : Value} {xs : List α} (h : Kd.R d e w base ok v xs) {g : Nat} (hg : g < base) (j : Nat) (u : Value) : Kd.R d e (w.setCell ⟨g, j, none⟩ u) base ok v xs :=
  Kd.R_mono (Kd.R_far (Kd.R_bound h) (p := ⟨g, j, none⟩) (fun k hk => by have := hk.2.1; show k ≠ g; omega) u) (fun _ hk => hk.1)
theorem IsBox.lt {w0 w : World} {g T : Nat} {rest : List Value} {ws : List Int} {s : Bool} (hI : IsBox w0 w g T rest ws s) : g < w.heap.size := by
  obtain ⟨A, c, hg, _⟩ := hI
  exact blk_lt hg

/-- Take: what is answered, what is left, and whether there were too few. -/
def takeV (ws : List Int) (n : Int) : List Int := if n ≤ 0 then [] else if n > (ws.length : Int) then [] else ws.take n.toNat
def takeR (ws : List Int) (n : Int) : List Int := if n ≤ 0 then ws else if n > (ws.length : Int) then ws else ws.drop n.toNat
def takeS (ws : List Int) (n : Int) (s : Bool) : Bool := if n ≤ 0 then s else if n > (ws.length : Int) then true else s
set_option maxHeartbeats 800000 in
theorem take_any (T : Nat) (rest : List Value) (g : Nat) (ws : List Int) (s : Bool) (n : Int) (w0 w : World) (hI : IsBox w0 w g T rest ws s) (hB : Below w0.heap.size w0 w) (hl : ws.length * 4 ≤ 140737488355328) :
    Calls Try.prog 75 #[.pointer (some ⟨g, 0, none⟩), .int .i64 n] w fun e w' => ∃ v, e = .returned v ∧ Kd.R (Kd.int .u32) 43 w' w.heap.size (fun _ => True) v (takeV ws n) ∧ IsBox w0 w' g T rest (takeR ws n) (takeS ws n s) ∧ Below w0.heap.size w0 w' ∧ KeepBut w w' g none := by
  have HI := Aside0.mk hI
  have HB := Aside0.mk hB
  obtain ⟨A, c, hg, hgb, hc, hr⟩ := hI
  have hc0 : w.cell? ⟨g, 0, none⟩ = some (.slice A ws.length c) := (blk_cell hg 0).trans rfl
  have hc1 : w.cell? ⟨g, 1, none⟩ = some (.bool s) := (blk_cell hg 1).trans rfl
  have hf1 := blk_frozen hg 1
  have HG := Aside0.mk hg
  have HGB := Aside0.mk hgb
  have HC := Aside0.mk hc
  have HR := Aside0.mk hr
  have HL := Aside0.mk hl
  clear hg hgb hB hc hr hl
  unfold takeV takeR takeS
  by_cases h0 : n ≤ 0
  · rw [if_pos h0, if_pos h0, if_pos h0]
    clear hc0 hc1 hf1
    go_enter Try.func75, Try.ntmps75
    go_wp2
    go_ret
    exact ⟨_, rfl, Kd.R_nil _ _ _ _ _, HI.out, HB.out, KeepBut.refl w g none⟩
  · rw [if_neg h0, if_neg h0, if_neg h0]
    by_cases h1 : n > (ws.length : Int)
    · rw [if_pos h1, if_pos h1, if_pos h1]
      go_enter Try.func75, Try.ntmps75
      go_wp2
      go_ret
      exact ⟨_, rfl, Kd.R_nil _ _ _ _ _, isbox_short HI.out true, HB.out.setCell HGB.out _, (KeepBut.refl w g none).set_ _ _⟩
    · rw [if_neg h1, if_neg h1, if_neg h1]
      obtain ⟨m, rfl⟩ := Int.eq_ofNat_of_zero_le (show 0 ≤ n by omega)
      rw [Int.toNat_natCast]
      have hm1 : m ≤ ws.length := by omega
      have hmc : m ≤ c := Nat.le_trans hm1 HC.out
      obtain ⟨ad, rfl, _⟩ := HR.out.2.2 (by omega)
      clear hc1 hf1
      go_enter Try.func75, Try.ntmps75
      go_wp2_with fail
      have hr1 : Kd.C (Kd.int .u32) w (some ad) (ws.take m).length (ws.take m) := Kd.C_below (Kd.C_take HR.out hm1) HB.out
      refine (clone_u32 (some ad) m c (ws.take m) w (by rw [List.length_take]; omega) hr1 (by rw [List.length_take]; have := HL.out; omega)).mono ?_
      rintro e w1 ⟨v, rfl, hv, hb⟩
      have hg1 := blk_below HG.out hb
      have hc1 : w1.cell? ⟨g, 0, none⟩ = some (.slice (some ad) ws.length c) := (blk_cell hg1 0).trans rfl
      have hf1 := blk_frozen hg1 0
      have HG1 := Aside0.mk hg1
      have HV := Aside0.mk hv
      have HB1 := Aside0.mk hb
      have HBB := Aside0.mk (below_then HB.out HB.out.size hb)
      have hd := Kd.C_drop (m := m) HR.out hm1 HC.out
      rw [show (Kd.int IntKind.u32).sz = 1 from rfl, Nat.mul_one] at hd
      have HD := Aside0.mk hd
      clear hg1 hv hb hd hc0
      go_wp2
      all_goals
        go_ret
        refine ⟨v, rfl, R_elder HV.out HI.out.lt _ _, isbox_of HG1.out HGB.out (by simp) (by have := HC.out; omega) ?_, HBB.out.setCell HGB.out _, (KeepBut.of_below HB1.out g none).set_ _ _⟩
        simpa [Addr.add, *] using HD.out
end Go.Proofs.Ytbpmmabdjabfcaa.Box
