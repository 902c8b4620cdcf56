import Derived.Test.YtndmdlnmjamgkaaFrameNx
import Derived.Test.YtndmdlnmjamgkaaPFx8
import Derived.RangeFuncFrom
import Derived.RangeFuncBound
import Derived.RangeFuncCalls
import Derived.RangeFuncBox
import Derived.Shelf.Abstract
import Derived.WalkKit
import Derived.OwnWalkIn
import Derived.TacticsInMore
import Derived.LoopIn
/- A partition's ticks: what the reference tells, and what the iterator hands over. -/
namespace Go.Proofs.Ytndmdlnmjamgkaa.Frame
open Go.RowKit Go.Shelf Go.Proofs.YtndmdlnmjamgkaaW.PrintWords Go.Proofs.YtndmdlnmjamgkaaW.PrintMore Go.Proofs.Ytndmdlnmjamgkaa.PF
/-- So many ticks on, those of the partition. -/
def tk (L : Int) (ws : List S46) (part : Int) : Nat → Int → List Int
  | 0, _ => []
  | n + 1, t => if (At L ws t).2 = true ∧ (At L ws t).1 = part then t :: tk L ws part n (t + 1) else tk L ws part n (t + 1)
def allT (L : Int) (ws : List S46) (part start : Int) : List Int := if (Nx L ws part start).2 = true then tk L ws part (1099511627777 - start).toNat start else []
theorem nx_may {L : Int} {ws : List S46} {part t : Int} (h : (Nx L ws part t).2 = true) : 0 ≤ t ∧ t ≤ 1099511627776 := by
  unfold Nx at h
  split at h
  · rename_i hm; exact ⟨(may_true hm).1, (may_true hm).2.1⟩
  · cases h
theorem rt_l0 (L : Int) (ws : List S46) (part : Int) (many : Nat) (hm : many ≤ 100) : ∀ (n k : Nat) (t : Int) (out : List Int), (1099511627777 - t).toNat = n → 0 ≤ t → t ≤ 1099511627777 → out.length ≤ many → 2 * n + 60 ≤ k →
    portholeref09_Ticks.l0 k part (many : Int) out t L ws = some (out ++ (tk L ws part n t).take (many - out.length)) := by
  intro n
  induction n with
  | zero =>
    intro k t out hn h0 h1 ho hk
    obtain ⟨k, rfl⟩ : ∃ q, k = q + 2 := ⟨k - 2, by omega⟩
    simp only [portholeref09_Ticks.l0, portholeref09_Ticks.j1, tk, List.take_nil, List.append_nil]
    rw [decide_eq_false (show ¬ t ≤ 1099511627776 by omega)]
    simp
  | succ n ih =>
    intro k t out hn h0 h1 ho hk
    obtain ⟨k, rfl⟩ : ∃ q, k = q + 2 := ⟨k - 2, by omega⟩
    simp only [portholeref09_Ticks.l0, portholeref09_Ticks.j1, tk]
    by_cases hlt : out.length < many
    · rw [if_pos (by omega), decide_eq_true (show t ≤ 1099511627776 by omega), if_pos rfl, RefAt_eq k (by omega), Option.bind_some, show wrap64 (t + 1) = t + 1 by unfold wrap64; omega]
      by_cases ha : (At L ws t).2 = true
      · rw [if_pos ha]
        by_cases hp : (At L ws t).1 = part
        · obtain ⟨d, hd⟩ : ∃ d, many - out.length = d + 1 := ⟨many - out.length - 1, by omega⟩
          rw [if_pos hp, if_pos (by omega), if_pos ⟨ha, hp⟩, ih k (t + 1) (out ++ [t]) (by omega) (by omega) (by omega) (by simp; omega) (by omega), hd, show many - (out ++ [t]).length = d by simp; omega]
          simp
        · rw [if_neg hp, if_neg (fun h => hp h.2)]
          exact ih k (t + 1) out (by omega) (by omega) (by omega) ho (by omega)
      · rw [if_neg ha, if_neg (fun h => ha h.1)]
        exact ih k (t + 1) out (by omega) (by omega) (by omega) ho (by omega)
    · rw [if_neg (by omega), show many - out.length = 0 by omega]
      simp
theorem rticks_f (L : Int) (ws : List S46) (part start : Int) (many : Nat) (hm : many ≤ 100) (k : Nat) (hk : 2 * (1099511627777 - start).toNat + 1400 ≤ k) : portholeref09_Ticks.f k L ws part start (many : Int) = some ((allT L ws part start).take many) := by
  unfold portholeref09_Ticks.f allT
  rw [RefNext_eq k (by omega), Option.bind_some]
  by_cases h : (Nx L ws part start).2 = true
  · have := nx_may h
    rw [if_pos h, if_pos h]
    have := rt_l0 L ws part many hm _ k start [] rfl (by omega) (by omega) (by simp) (by omega)
    simpa using this
  · rw [if_neg h, if_neg h]; simp
/-- What the body of a round must keep: what lay when the law's call began; and, but for out's box, what lies below B. -/
def KpT (N0 B bo : Nat) (X Y : World) : Prop := Below N0 X Y ∧ ∀ k, k < B → k ≠ bo → k < X.heap.size → Y.heap[k]? = X.heap[k]?
theorem KpT.trans {N0 B bo : Nat} {X Y Z : World} (h : KpT N0 B bo X Y) (k : KpT N0 B bo Y Z) : KpT N0 B bo X Z := ⟨h.1.trans k.1, fun i hi hne hlt => (k.2 i hi hne (by have := h.1.size; omega)).trans (h.2 i hi hne hlt)⟩
theorem KpT.put {N0 B bo : Nat} {w : World} (hN : N0 ≤ w.heap.size) (hB : B ≤ w.heap.size) (W : World) (l : Nat) (o o' : Obj) (hl : w.heap.size ≤ l) (h : W.heap[l]? = some o) (_ : o.isCells = false) (_ : o.isWalk = false) : KpT N0 B bo W (W.putObj l o') :=
  ⟨(Below.refl N0 W).grown (grownBy_putObj' W l o') (by have := (Array.getElem?_eq_some_iff.1 h).1; omega) (fun k e => by cases e; omega), fun k hk _ _ => World.putObj_heap_other (by omega)⟩
theorem KpT.of_below {N0 B bo : Nat} {X Y : World} (h : Below X.heap.size X Y) (hN : N0 ≤ X.heap.size) : KpT N0 B bo X Y := ⟨h.mono hN, fun k _ _ hlt => h.block k hlt⟩
/-- The iterator's boxes. -/
def TBox (L : Int) (A : Option Addr) (c : Nat) (ws : List S46) (part start : Int) (w0 : World) (B bo gf gp gs : Nat) (W : World) : Prop :=
  gf < B ∧ gp < B ∧ gs < B ∧ gf ≠ bo ∧ gp ≠ bo ∧ gs ≠ bo ∧ W.heap[gf]? = some (.cells #[.int .i64 L, .slice A ws.length c] 40 (0, 0)) ∧ W.heap[gp]? = some (.cells #[.int .i64 part] 3 (0, 0)) ∧ W.heap[gs]? = some (.cells #[.int .i64 start] 3 (0, 0)) ∧ Below w0.heap.size w0 W
theorem TBox.keep {L : Int} {A : Option Addr} {c : Nat} {ws : List S46} {part start : Int} {w0 : World} {B bo gf gp gs : Nat} {X Y : World} (h : TBox L A c ws part start w0 B bo gf gp gs X) (hk : KpT w0.heap.size B bo X Y) : TBox L A c ws part start w0 B bo gf gp gs Y := by
  obtain ⟨h1, h2, h3, h4, h5, h6, h7, h8, h9, h10⟩ := h
  exact ⟨h1, h2, h3, h4, h5, h6, (hk.2 _ h1 h4 (blk_lt h7)).trans h7, (hk.2 _ h2 h5 (blk_lt h8)).trans h8, (hk.2 _ h3 h6 (blk_lt h9)).trans h9, h10.trans hk.1⟩
theorem ab_below {β : Type} {B : Nat} {J : β → World → Prop} (hJ : AbidesFrom B J) {s : β} {W W1 : World} (h : J s W) (hb : Below W.heap.size W W1) : J s W1 :=
  hJ s W W1 none h ⟨hb.os, hb.tape, hb.output, hb.size, fun k hk _ => hb.block k hk⟩ (fun r e => by cases e)
theorem TBox.cells {L : Int} {A : Option Addr} {c : Nat} {ws : List S46} {part start : Int} {w0 : World} {B bo gf gp gs : Nat} {W : World} (h : TBox L A c ws part start w0 B bo gf gp gs W) :
    W.cell? ⟨gf, 0, none⟩ = some (.int .i64 L) ∧ W.cell? ⟨gf, 1, none⟩ = some (.slice A ws.length c) ∧ W.cell? ⟨gp, 0, none⟩ = some (.int .i64 part) ∧ W.cell? ⟨gs, 0, none⟩ = some (.int .i64 start) := by
  obtain ⟨_, _, _, _, _, _, b1, b2, b3, _⟩ := h
  exact ⟨(blk_cell b1 0).trans rfl, (blk_cell b1 1).trans rfl, (blk_cell b2 0).trans rfl, (blk_cell b3 0).trans rfl⟩
theorem TBox.elder {L : Int} {A : Option Addr} {c : Nat} {ws : List S46} {part start : Int} {w0 : World} {B bo gf gp gs : Nat} {W : World} (h : TBox L A c ws part start w0 B bo gf gp gs W) : Below w0.heap.size w0 W := h.2.2.2.2.2.2.2.2.2
theorem TBox.below {L : Int} {A : Option Addr} {c : Nat} {ws : List S46} {part start : Int} {w0 : World} {B bo gf gp gs : Nat} {X Y : World} (h : TBox L A c ws part start w0 B bo gf gp gs X) (hb : Below X.heap.size X Y) : TBox L A c ws part start w0 B bo gf gp gs Y := h.keep (KpT.of_below hb h.elder.size)
set_option maxRecDepth 100000 in
set_option maxHeartbeats 4000000 in
theorem ticks_stops (L : Int) (A : Option Addr) (c : Nat) (ws : List S46) (part start : Int) (w0 : World) (B bo gf gp gs k : Nat) (w : World) (hc : ws.length ≤ c) (hr : Kd.C k46 w0 A ws.length ws) (hT : TBox L A c ws part start w0 B bo gf gp gs w) :
    SeqStopsK Fence.wide k Try.prog 54 #[.pointer (some ⟨gf, 0, none⟩), .pointer (some ⟨gp, 0, none⟩), .pointer (some ⟨gs, 0, none⟩)] (fun x : Int => #[Value.int .i64 x]) (KpT w0.heap.size B bo) (fun xs => xs = allT L ws part start) (fun pre => pre <+: allT L ws part start) (allT L ws part start).length w := by
  intro l J Jx W hb hJ hJx hY h0
  have hT1 := hT.below hb
  obtain ⟨hc1, hc2, hc3, hc4⟩ := hT1.cells
  have HC := Aside0.mk hc
  have HR := Aside0.mk hr
  have HT := Aside0.mk hT1
  have HY := Aside0.mk hY
  have HJ := Aside0.mk hJ
  have HJX := Aside0.mk hJx
  have H0 := Aside0.mk h0
  clear hc hr hT hT1 hY hJ hJx h0 hb
  refine callsIn_of_wp Try.func54 rfl trivial ?_ rfl
  simp only [Try.ntmps54, List.size_toArray, List.length_cons, List.length_nil, Nat.reduceAdd, Nat.reduceSub, Array.replicate_succ, Array.replicate_zero, List.push_toArray, List.append_toArray, List.nil_append, List.cons_append]
  have hnx := frame_Next.calls 1400 L A c ws part start (Nx L ws part start).1 (Nx L ws part start).2 W (Kd.C_below HR.out HT.out.elder) HC.out (Next_eq 1400 (by omega) L ws part start)
  have HALL := Aside0.mk (show allT L ws part start = if (Nx L ws part start).2 = true then tk L ws part (1099511627777 - start).toNat start else [] from rfl)
  have HMAY := Aside0.mk (fun h : (Nx L ws part start).2 = true => nx_may h)
  generalize allT L ws part start = T at *
  generalize Nx L ws part start = nx at *
  have HNX := Aside0.mk hnx
  clear hnx
  gi_wp2_with fail
  refine ⟨trivial, fun h => (nomatch h), (callsIn_wide.2 HNX.out).mono ?_⟩
  rintro e w1 ⟨rfl, hb⟩
  have H1 := Aside0.mk (ab_below HJ.out H0.out hb)
  have HT1 := Aside0.mk (HT.out.below hb)
  obtain ⟨hd1, hd2, hd3, hd4⟩ := HT1.out.cells
  clear hb hc1 hc2 hc3 hc4 HNX H0 HT
  obtain ⟨nx1, nx2⟩ := nx
  cases nx2 with
  | false =>
    have hT0 := HALL.out
    rw [if_neg (show ¬ ((nx1, false) : Int × Bool).2 = true from fun h => Bool.noConfusion h)] at hT0
    have HT0 := Aside0.mk hT0
    clear hT0
    gi_wp2
    refine bodyPost_ret (results_none rfl _ _ _) rfl ?_
    exact ⟨⟨_, rfl⟩, .inl ⟨[], HT0.out.symm, H1.out⟩⟩
  | true =>
    have hT0 := HALL.out
    rw [if_pos rfl] at hT0
    obtain ⟨hs0, hs1⟩ := HMAY.out rfl
    have HT0 := Aside0.mk hT0
    clear hT0 HALL HMAY
    gi_wp2
    gi_loopw [7] (fun v wr => ∃ (t : Int) (n : Nat) (pre : List Int), v = .int .i64 t ∧ 0 ≤ t ∧ t ≤ 1099511627777 ∧ (1099511627777 - t).toNat = n ∧ Aside0 (T = pre ++ tk L ws part n t) ∧ Aside0 (J pre wr) ∧ Aside0 (TBox L A c ws part start w0 B bo gf gp gs wr)) (fun v _ => (1099511627777 - intOf v).toNat)
    case atStart => exact ⟨start, _, [], rfl, hs0, by omega, rfl, HT0, H1, HT1⟩
    case round =>
      obtain ⟨t, n, pre, rfl, ht0, ht1, hn, HTT, HJP, HTB⟩ := hrel
      clear hd1 hd2 hd3 hd4
      obtain ⟨hd1, hd2, hd3, hd4⟩ := HTB.out.cells
      rcases n with _ | n
      · have hdt : decide (t ≤ 1099511627776) = false := decide_eq_false (by omega)
        have hT1 := HTT.out
        rw [tk, List.append_nil] at hT1
        have HT2 := Aside0.mk hT1
        clear hT1
        gi_wp2
        go_end0
        exact ⟨⟨_, rfl⟩, .inl ⟨pre, HT2.out.symm, HJP.out⟩⟩
      · have hdt : decide (t ≤ 1099511627776) = true := decide_eq_true (by omega)
        have hat := frame_At.calls 60 L A c ws t (At L ws t).1 (At L ws t).2 wr (Kd.C_below HR.out HTB.out.elder) HC.out (At_eq 60 (by omega) L ws t)
        have hT1 := HTT.out
        rw [tk] at hT1
        generalize At L ws t = at_ at *
        have HAT := Aside0.mk hat
        have HT2 := Aside0.mk hT1
        clear hat hT1
        gi_wp2_with fail
        refine ⟨trivial, fun h => (nomatch h), (callsIn_wide.2 HAT.out).mono ?_⟩
        rintro e w2 ⟨rfl, hb⟩
        have HJ2 := Aside0.mk (ab_below HJ.out HJP.out hb)
        have HTB2 := Aside0.mk (HTB.out.below hb)
        clear hb hd1 hd2 hd3 hd4
        obtain ⟨hd1, hd2, hd3, hd4⟩ := HTB2.out.cells
        obtain ⟨p, o⟩ := at_
        have hT3 := HT2.out
        dsimp only at hT3 ⊢
        cases o with
        | false =>
          rw [if_neg (fun h => Bool.noConfusion h.1)] at hT3
          have HT3 := Aside0.mk hT3
          clear hT3 HT2 HTT
          gi_wp2
          refine ⟨fun _ h => (nomatch h), ?_⟩
          gi_wp2
          go_roundw
          case rel => exact ⟨t + 1, n, pre, by go_num, by omega, by omega, by omega, HT3, HJ2, HTB2⟩
          case measure => simp [intOf]; omega
        | true =>
          by_cases hp : p = part
          · subst hp
            rw [if_pos ⟨rfl, rfl⟩] at hT3
            have HT3 := Aside0.mk hT3
            obtain ⟨fn, tm, asg, bd, hy0, hR⟩ := HY.out pre t w2 HJ2.out (by rw [hT3]; simp)
            have hy : (Instr.yield l #[.int .i64 t]).run Try.prog w2 = .ok (.round l fn tm asg bd) w2 := hy0
            have HRD := Aside0.mk hR
            clear hT3 HT2 HTT hy0 hR
            gi_wp2_with fail
            refine ⟨fun h => (nomatch h), HRD.out.mono ?_⟩
            rintro e w3 (⟨rfl, hj3, hk3⟩ | ⟨rfl, hjx3⟩)
            · have HJ3 := Aside0.mk hj3
              have HTB3 := Aside0.mk (HTB2.out.keep hk3)
              clear hj3 hk3 hy hd1 hd2 hd3 hd4
              gi_wp2
              go_roundw
              case rel => exact ⟨t + 1, n, pre ++ [t], by go_num, by omega, by omega, by omega, ⟨by rw [HT3.out]; simp⟩, HJ3, HTB3⟩
              case measure => simp [intOf]; omega
            · have HJX3 := Aside0.mk hjx3
              clear hjx3 hy hd1 hd2 hd3 hd4
              gi_wp2
              refine bodyPost_ret (results_none rfl _ _ _) rfl ?_
              exact ⟨⟨_, rfl⟩, .inr ⟨pre ++ [t], ⟨tk L ws p n (t + 1), by rw [HT3.out]; simp⟩, HJX3.out⟩⟩
          · have hpb : (p == part) = false := beq_eq_false_iff_ne.2 hp
            rw [if_neg (fun h => hp h.2)] at hT3
            have HT3 := Aside0.mk hT3
            clear hT3 HT2 HTT
            gi_wp2
            refine ⟨fun _ h => (nomatch h), ?_⟩
            gi_wp2
            go_roundw
            case rel => exact ⟨t + 1, n, pre, by go_num, by omega, by omega, by omega, HT3, HJ2, HTB2⟩
            case measure => simp [intOf]; omega
end Go.Proofs.Ytndmdlnmjamgkaa.Frame
