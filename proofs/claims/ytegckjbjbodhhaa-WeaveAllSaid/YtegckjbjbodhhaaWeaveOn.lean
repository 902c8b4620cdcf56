import Derived.Test.YtegckjbjbodhhaaRangeX
import Derived.Test.YtegckjbjbodhhaaCloneInt
import Derived.RangeFuncNested
import Derived.RangeFuncBound
import Derived.RangeFuncCalls
import Derived.RangeFuncLeaves
import Derived.Shelf.Abstract
import Derived.Shelf.RegionOpen
import Derived.WalkKit
import Derived.OwnWalkIn
import Derived.Maps.OwnIn
import Derived.TacticsInMore
import Derived.LoopNIn
import Derived.LoopIn
import Derived.Stop.RegionWithIn
/- Package weave: the closure that goes through all ways: every way that begins with what is in hand is handed to yield, in order, till one says 'no more'. -/
namespace Go.Proofs.Ytegckjbjbodhhaa.Weave
open Go.RowKit Go.Shelf Go.Proofs.YtegckjbjbodhhaaW.PrintWords Go.Proofs.YtegckjbjbodhhaaW.PrintMore Go.Proofs.Ytegckjbjbodhhaa.RangeX Go.Proofs.Ytegckjbjbodhhaa.Box
attribute [local go_sem] Oper.semAt_some

/-- All ways of so many acts. -/
def ways : Nat → Nat → List (List Int)
  | 0, 0 => [[]]
  | n + 1, 0 => (ways n 0).map (0 :: ·)
  | 0, m + 1 => (ways 0 m).map (1 :: ·)
  | n + 1, m + 1 => (ways n (m + 1)).map (0 :: ·) ++ (ways (n + 1) m).map (1 :: ·)
/-- What is handed over: a row of the iterator's own. -/
abbrev Item := Value × List Int
def enc1 (x : Item) : Array Value := #[x.1]
def Ar (B : Nat) (x : Item) (X : Nat → Prop) (W : World) : Prop := Kd.R (Kd.int .i64) 3 W B X x.1 x.2
def rel (x : Item) (k : Nat) : Prop := x.1.ownBlock = some k
theorem ar_put (B : Nat) (x : Item) (X : Nat → Prop) (W : World) (l : Nat) (o o' : Obj) (h : Ar B x X W) (_hl : W.heap[l]? = some o) (_ho : o.isCells = false) (hX : ¬ X l) : Ar B x X (W.putObj l o') :=
  Kd.R_move h (fun k hk => World.putObj_heap_other (fun e => hX (by rw [← e]; exact hk)))
/-- The closure's boxes, and the way in hand. -/
def Inv (B l gy gw go : Nat) (wy : List Int) (X : Nat → Prop) (W : World) : Prop :=
  B ≤ gy ∧ X gy ∧ X gw ∧ X go ∧ W.heap[gy]? = some (.cells #[.func (.yield l) #[] #[]] 37 (0, 0)) ∧
    W.heap[go]? = some (.cells #[.func (.func 23) #[] #[.pointer (some ⟨gy, 0, none⟩), .pointer (some ⟨gw, 0, none⟩), .pointer (some ⟨go, 0, none⟩)]] 29 (0, 0)) ∧
    ∃ v, W.heap[gw]? = some (.cells #[v] 26 (0, 0)) ∧ Kd.R (Kd.int .i64) 3 W B X v wy
theorem inv_below {B l gy gw go : Nat} {wy : List Int} {X : Nat → Prop} {W W1 : World} (h : Inv B l gy gw go wy X W) (hb : Below W.heap.size W W1) : Inv B l gy gw go wy X W1 := by
  obtain ⟨hb0, h1, h2, h3, h4, h5, v, h6, h7⟩ := h
  exact ⟨hb0, h1, h2, h3, blk_below h4 hb, blk_below h5 hb, v, blk_below h6 hb, Kd.R_below h7 hb⟩
theorem inv_keeps {B l gy gw go : Nat} {wy : List Int} {X X' : Nat → Prop} {W W1 : World} (h : Inv B l gy gw go wy X W) (hk : KeepsX X' W W1) (hX : ∀ k, X k → k < W.heap.size → X' k) : Inv B l gy gw go wy X' W1 := by
  obtain ⟨hb0, h1, h2, h3, h4, h5, v, h6, h7⟩ := h
  have hx : ∀ k o, X k → W.heap[k]? = some o → W1.heap[k]? = some o := fun k o hk1 ho => hk.blk (hX k hk1 (blk_lt ho)) ho
  exact ⟨hb0, hX _ h1 (blk_lt h4), hX _ h2 (blk_lt h6), hX _ h3 (blk_lt h5), hx _ _ h1 h4, hx _ _ h3 h5, v, hx _ _ h2 h6,
    Kd.R_mono (Kd.R_move (Kd.R_bound h7) (fun k hk2 => hk.2 k (hX k hk2.1 hk2.2.2.1) hk2.2.2.1)) (fun k hk2 => hX k hk2.1 hk2.2.2.1)⟩
theorem room_of_none {F : Fence} (hd : F.depth = none) (k : Nat) : F.room k := fun d h => by rw [hd] at h; cases h
theorem roundAny {F : Fence} (hd : F.depth = none) {m m' : Nat} {P : Program} {l : Nat} {f : FuncId} {tmps : Array Value} {assign body : Code} {w : World} {R : Ending → World → Prop}
    (h : RoundIn F m P l f tmps assign body w R) : RoundIn F m' P l f tmps assign body w R := ⟨h.1, fun c cs _ => h.2 c cs (room_of_none hd _)⟩
theorem yieldAny {F : Fence} (hd : F.depth = none) {m : Nat} (m' : Nat) {P : Program} {l : Nat} {args : Array Value} {W : World} {R : Ending → World → Prop} (h : YieldAt F m P l args W R) : YieldAt F m' P l args W R := by
  obtain ⟨fn, tmps, assign, body, hy, hR⟩ := h
  exact ⟨fn, tmps, assign, body, hy, roundAny hd hR⟩

section
variable (B l gy gw go N : Nat) (J Jx : List Item → (Nat → Prop) → World → Prop)
def YieldOk : Prop := ∀ (m : Nat) (pre : List Item) (X : Nat → Prop) (x : Item) (W1 : World), J pre X W1 → Ar B x X W1 → pre.length < N → YieldAt Fence.wide m Try.prog l (enc1 x) W1 fun e W' =>
  (e = .returned (.bool true) ∧ J (pre ++ [x]) (less X (rel x)) W' ∧ KeepsX (less X (rel x)) W1 W') ∨ (e = .returned (.bool false) ∧ Jx (pre ++ [x]) (less X (rel x)) W' ∧ KeepsX (less X (rel x)) W1 W')
def OnPost (pre : List Item) (wy : List Int) (L : List (List Int)) (e : Ending) (W' : World) : Prop :=
  (e = .returned (.bool true) ∧ ∃ X' its, its.map (·.2) = L.map (wy ++ ·) ∧ J (pre ++ its) X' W' ∧ Inv B l gy gw go wy X' W') ∨
  (e = .returned (.bool false) ∧ ∃ X' its r, its.map (·.2) ++ r = L.map (wy ++ ·) ∧ Jx (pre ++ its) X' W' ∧ Inv B l gy gw go wy X' W')
variable (hJ : AbX J) (hJx : AbX Jx) (hY : YieldOk B l N J Jx)
/-- A round, in one word. -/
def RoundPost (pre : List Item) (X : Nat → Prop) (x : Item) (W1 : World) (e : Ending) (W' : World) : Prop :=
  ∃ b : Bool, e = .returned (.bool b) ∧ KeepsX (less X (rel x)) W1 W' ∧ (b = true → J (pre ++ [x]) (less X (rel x)) W') ∧ (b = false → Jx (pre ++ [x]) (less X (rel x)) W')
omit hJ hJx in
theorem yield_one (hY : YieldOk B l N J Jx) (m : Nat) (pre : List Item) (X : Nat → Prop) (x : Item) (W1 : World) (h1 : J pre X W1) (h2 : Ar B x X W1) (h3 : pre.length < N) :
    ∃ fn tmps assign body, (Instr.yield l (enc1 x)).run Try.prog W1 = .ok (.round l fn tmps assign body) W1 ∧ RoundIn Fence.wide m Try.prog l fn tmps assign body W1 (RoundPost J Jx pre X x W1) := by
  obtain ⟨fn, tmps, assign, body, hy, hR⟩ := hY m pre X x W1 h1 h2 h3
  refine ⟨fn, tmps, assign, body, hy, hR.mono ?_⟩
  rintro e W' (⟨rfl, h4, h5⟩ | ⟨rfl, h4, h5⟩)
  · exact ⟨true, rfl, h5, fun _ => h4, fun h => (nomatch h)⟩
  · exact ⟨false, rfl, h5, fun h => (nomatch h), fun _ => h4⟩
/-- The clone of the way in hand, laid for yield. -/
theorem leaf_step (hJ : AbX J) (pre : List Item) (wy : List Int) (X : Nat → Prop) (W W0 W1 : World) (vc : Value) (h0 : J pre X W) (hI : Inv B l gy gw go wy X W) (hB : B ≤ W.heap.size) (hd : W0.heap = W.heap) (hd2 : Below W.heap.size W W0)
    (hvc : Kd.R (Kd.int .i64) 3 W1 W0.heap.size (fun _ => True) vc wy) (hbc : Below W0.heap.size W0 W1) :
    ∃ X1, J pre X1 W1 ∧ Ar B (vc, wy) X1 W1 ∧ Inv B l gy gw go wy (less X1 (rel (vc, wy))) W1 := by
  have hsz : W0.heap.size = W.heap.size := by rw [hd]
  have hb1 : Below W.heap.size W W1 := hd2.trans (hbc.mono (by rw [hsz]; exact Nat.le_refl _))
  refine ⟨fun k => X k ∨ (W.heap.size ≤ k ∧ k < W1.heap.size), hJ pre X W W1 none _ h0 ?_ (fun r e => by cases e) (fun k hk => hk), ?_, ?_⟩
  · exact ⟨hb1.os, hb1.tape, hb1.output, hb1.size, fun k hk _ => hb1.block k hk⟩
  · exact Kd.R_lower (Kd.R_mono (Kd.R_bound hvc) (fun k hk => .inr (by have := hk.2.1; have := hk.2.2.1; omega))) (by omega)
  · refine inv_keeps hI ⟨hb1.size, fun k _ hk => hb1.block k hk⟩ (fun k hk hlt => ⟨.inl hk, fun hr => ?_⟩)
    have := Kd.R_base hvc k hr
    omega
include hJ hY
set_option maxRecDepth 100000 in
set_option maxHeartbeats 1000000 in
theorem on_leaf (k : Nat) (pre : List Item) (wy : List Int) (X : Nat → Prop) (W : World) (h0 : J pre X W) (hI : Inv B l gy gw go wy X W) (hB : B ≤ W.heap.size) (hN : pre.length < N) (hl : wy.length ≤ 16) :
    CallsIn Fence.wide k Try.prog 23 #[.int .i64 0, .int .i64 0, .pointer (some ⟨gy, 0, none⟩), .pointer (some ⟨gw, 0, none⟩), .pointer (some ⟨go, 0, none⟩)] W (OnPost B l gy gw go J Jx pre wy [[]]) := by
  have HI := Aside0.mk hI
  obtain ⟨x0, x1, x2, x3, b1, b2, v, b3, hv⟩ := hI
  obtain ⟨A, c, rfl⟩ := Kd.R_slice hv
  have hc1 : W.cell? ⟨gy, 0, none⟩ = some (.func (.yield l) #[] #[]) := (blk_cell b1 0).trans rfl
  have hc2 : W.cell? ⟨gw, 0, none⟩ = some (.slice A wy.length c) := (blk_cell b3 0).trans rfl
  have HV := Aside0.mk hv
  clear x0 x1 x2 x3 b1 b2 b3 hv
  refine callsIn_of_wp Try.func23 rfl trivial ?_ rfl
  simp only [Try.ntmps23, List.size_toArray, List.length_cons, List.length_nil, Nat.reduceAdd, Nat.reduceSub, Array.replicate_succ, Array.replicate_zero, List.push_toArray, List.append_toArray, List.nil_append, List.cons_append]
  gi_wp2
  have HJ0 := Aside0.mk h0
  have HB := Aside0.mk hB
  have HN := Aside0.mk hN
  have HL := Aside0.mk hl
  clear h0 hB hN hl
  gi_region_with (first | (refine ⟨trivial, fun h => (nomatch h), ?_⟩; gi_at_call 24; refine (callsIn_wide.2 (clone_int A wy.length c wy W.drew rfl (Kd.C_drew (Kd.R_reads' HV.out).2.2) (by have := HL.out; omega))).mono ?_; rintro e W1 ⟨vc, rfl, hvc, hbc⟩; obtain ⟨X1, hj1, har1, hin1⟩ := leaf_step B l gy gw go J hJ pre wy X W W.drew W1 vc HJ0.out HI.out HB.out rfl (below_drew1 (Below.refl _ _)) hvc hbc; obtain ⟨fn, tm, asg, bd, hy0, hR⟩ := yield_one B l N J Jx hY (k - 1) pre X1 (vc, wy) W1 hj1 har1 HN.out; have hy : (Instr.yield l #[vc]).run Try.prog W1 = .ok (.round l fn tm asg bd) W1 := hy0; have hc3 : W1.cell? ⟨gy, 0, none⟩ = some (.func (.yield l) #[] #[]) := pw_cell_below (w := W.drew) hbc hc1; have HIN := Aside0.mk hin1; clear hy0 hvc hbc hj1 har1 hin1) | (refine ⟨fun h => (nomatch h), ?_⟩; refine hR.mono ?_; clear hR; rintro e W2 ⟨b, rfl, hk2, hb1, hb2⟩; have HK2 := Aside0.mk hk2; have HB1 := Aside0.mk hb1; have HB2 := Aside0.mk hb2; clear hk2 hb1 hb2))
  all_goals
    gi_wp2
    go_ret
    have hin2 := inv_keeps HIN.out HK2.out (fun k hk _ => hk)
    cases b with
    | true => exact .inl ⟨rfl, _, [(vc, wy)], by simp, HB1.out rfl, hin2⟩
    | false => exact .inr ⟨rfl, _, [(vc, wy)], [], by simp, HB2.out rfl, hin2⟩
end
end Go.Proofs.Ytegckjbjbodhhaa.Weave
