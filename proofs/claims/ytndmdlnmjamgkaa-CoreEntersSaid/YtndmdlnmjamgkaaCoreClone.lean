import Derived.Test.YtndmdlnmjamgkaaProg
import Derived.Test.YtndmdlnmjamgkaaWWords
import Derived.Test.YtndmdlnmjamgkaaWMore
import Derived.WalkKit
import Derived.KernelRfl
import Derived.RowKit
import Derived.WideLaws
import Derived.Maps.AppendAt
import Derived.OwnWalk
import Derived.WalkSpells
import Derived.Test.YtndmdlnmjamgkaaPFx0
/- slices.Clone at []porthole/api.Window: a row of the call's own with the same elements. -/
namespace Go.Proofs.Ytndmdlnmjamgkaa.Box
open Go.RowKit Go.Proofs.YtndmdlnmjamgkaaW.PrintWords Go.Proofs.YtndmdlnmjamgkaaW.PrintMore Go.Proofs.Ytndmdlnmjamgkaa.PF
theorem info_win : (Try.prog.info? 46).map (fun i => (i.zero, i.size, i.bytes)) = some (some (.agg #[(.int .i64 0), (.int .i64 0), (.int .i64 0)]), (k46).sz, 24) := by kernel_rfl
theorem R_void {α : Type} (d : Kd α) (e : Nat) (w : World) : Kd.R d e (w.alloc (.cells #[] e)) w.heap.size (fun _ => True) (.slice (some ⟨w.heap.size, 0, none⟩) 0 0) [] := by
  refine ⟨fun _ _ => trivial, [], ?_, Reps.none _ _⟩
  have h2 := World.ownsRow_lit (base := w.heap.size) (e := e) (size := d.sz) w #[] 0 (Nat.le_refl _) (by simp [maxLen]) (by simp)
  simpa using h2
set_option maxHeartbeats 400000 in
theorem clone_win (A : Option Addr) (n c : Nat) (l : List S46) (w : World) (hnl : n = l.length) (hr : Kd.C k46 w A l.length l) (hl : l.length * 24 ≤ 140737488355328) :
    Calls Try.prog 56 #[.slice A n c] w fun e w' => ∃ v, e = .returned v ∧ Kd.R k46 46 w' w.heap.size (fun _ => True) v l ∧ Below w.heap.size w w' := by
  subst hnl
  have hu := Try.underlying38
  cases A with
  | none =>
    obtain rfl : l = [] := by
      cases l with
      | nil => rfl
      | cons x r => obtain ⟨ad, h, _⟩ := hr.2.2 (by simp); cases h
    have hn := fun (w : World) => Lib.run_eql_slice_nil (P := Try.prog) w 38 46 none 0 c 0 0 hu
    clear hr hl
    go_enter Try.func56, Try.ntmps56
    go_wp2
    go_ret
    exact ⟨_, rfl, Kd.R_nil _ _ _ _ _, Below.refl _ _⟩
  | some ad =>
    have hn := fun (w : World) => Lib.run_eql_slice_nil (P := Try.prog) w 38 46 (some ad) l.length c 0 0 hu
    have HR := Aside0.mk hr
    clear hr
    go_enter Try.func56, Try.ntmps56
    go_wp2_with (at_builtin; refine Kd.R_append_rows k46 (w0 := w) w.heap.size rfl (.tmp 5) (.tmp 6) 38 46 (.agg #[(.int .i64 0), (.int .i64 0), (.int .i64 0)]) 24 rfl hu info_win rfl (by decide) (by omega) (.slice (some ⟨w.heap.size, 0, none⟩) 0 0) ([] : List S46) l _ _ _ (fun _ => True) (fun _ => False) rfl rfl ?aO ?aR (fun _ _ h => h) (fun _ h => h.elim) ?aF ?aB ?aS ?aL ?_)
    case aO => exact R_void _ _ _
    case aR => exact Kd.C_alloc HR.out _
    case aF => exact fun _ _ => trivial
    case aB => exact below_alloc (Below.refl _ _) _
    case aS => simp
    case aL => simpa using hl
    intro v1 w1 h1 h2 h3 h4
    go_wp2
    go_ret
    exact ⟨v1, rfl, by simpa using h1, h2⟩
end Go.Proofs.Ytndmdlnmjamgkaa.Box
