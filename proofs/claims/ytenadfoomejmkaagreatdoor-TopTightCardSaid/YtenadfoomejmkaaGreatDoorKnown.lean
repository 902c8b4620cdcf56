import Derived.Test.YtenadfoomejmkaaGreatDoorMemo
/- The engine: the known calls, each shown by a run that the kernel evaluates. Written by a program of this session. -/
namespace Go.Proofs.YtenadfoomejmkaaGreatDoor.Eng
open Go
set_option maxRecDepth 1000000
noncomputable def okR (v : AV) (r : Option (AV × Hp)) : Bool := match r with
  | some (x, _) => AV.beq x v
  | none => false
theorem okR_some {v : AV} {r : Option (AV × Hp)} (h : okR v r = true) : ∃ H', r = some (v, H') := by
  cases r with
  | none => cases h
  | some p => exact ⟨p.2, by rw [← beq_eq _ _ (show AV.beq p.1 v = true from h)]⟩
theorem stands {M : Memo} {K : Known} (n : Nat) (h : okR K.r (callF (exec M n) K.f K.args K.mem) = true) (ha : flatE K.a = true) (hs : flats K.s = true) (hr : flat K.r = true) (hl : Nat.blt (2 + (rowsE K.a).length) lim = true) : Stands M K :=
  ⟨let ⟨H', h⟩ := okR_some h; ⟨n, H', h⟩, ha, hs, hr, nblt hl⟩
noncomputable def kWake : Known := ⟨23, [.row 2 2 [.int .i64 0, .int .i64 2, .int .i64 1, .int .i64 1], .row 1 7 [.int .i64 2, .int .i64 0, .int .i64 1, .int .i64 2, .int .i64 2, .int .i64 0, .int .u32 0], .sc (.int .i64 1), .row 1 3 [.int .i64 0, .int .i64 0, .int .i64 1], .sc (.int .i64 1), .row 1 3 [.int .i64 1, .int .i64 0, .int .i64 1]], [], .int .i64 0⟩
theorem kWake_ok : Stands noMemo kWake := stands 300 (by kernel_rfl) (by kernel_rfl) (by kernel_rfl) (by kernel_rfl) (by kernel_rfl)
noncomputable def kCodes : Known := ⟨23, [.row 2 2 [.int .i64 0, .int .i64 2, .int .i64 1, .int .i64 1], .row 2 7 [.int .i64 2, .int .i64 0, .int .i64 1, .int .i64 1, .int .i64 1, .int .i64 0, .int .u32 0, .int .i64 1, .int .i64 0, .int .i64 1, .int .i64 1, .int .i64 0, .int .i64 0, .int .u32 0], .sc (.int .i64 1), .row 1 3 [.int .i64 0, .int .i64 0, .int .i64 1], .sc (.int .i64 1), .row 1 3 [.int .i64 1, .int .i64 0, .int .i64 1]], [], .int .i64 0⟩
theorem kCodes_ok : Stands noMemo kCodes := stands 300 (by kernel_rfl) (by kernel_rfl) (by kernel_rfl) (by kernel_rfl) (by kernel_rfl)
noncomputable def kSamp : Known := ⟨23, [.row 2 2 [.int .i64 0, .int .i64 2, .int .i64 1, .int .i64 1], .row 1 7 [.int .i64 1, .int .i64 0, .int .i64 1, .int .i64 1, .int .i64 0, .int .i64 9, .int .u32 0], .sc (.int .i64 1), .row 1 3 [.int .i64 0, .int .i64 0, .int .i64 1], .sc (.int .i64 1), .row 1 3 [.int .i64 1, .int .i64 0, .int .i64 1]], [], .int .i64 0⟩
theorem kSamp_ok : Stands noMemo kSamp := stands 300 (by kernel_rfl) (by kernel_rfl) (by kernel_rfl) (by kernel_rfl) (by kernel_rfl)
noncomputable def kQueue : Known := ⟨23, [.row 2 2 [.int .i64 0, .int .i64 2, .int .i64 1, .int .i64 1], .row 1 7 [.int .i64 2, .int .i64 0, .int .i64 1, .int .i64 1, .int .i64 1, .int .i64 0, .int .u32 0], .sc (.int .i64 1), .row 1 3 [.int .i64 0, .int .i64 0, .int .i64 1], .sc (.int .i64 1), .row 1 3 [.int .i64 1, .int .i64 0, .int .i64 1]], [], .int .i64 0⟩
theorem kQueue_ok : Stands noMemo kQueue := stands 300 (by kernel_rfl) (by kernel_rfl) (by kernel_rfl) (by kernel_rfl) (by kernel_rfl)
noncomputable def kAt0 : Known := ⟨131, [.sc (.int .i64 1), .row 1 3 [.int .i64 0, .int .i64 0, .int .i64 1]], [.int .i64 0], .tup [.int .i64 0, .bool true]⟩
theorem kAt0_ok : Stands noMemo kAt0 := stands 300 (by kernel_rfl) (by kernel_rfl) (by kernel_rfl) (by kernel_rfl) (by kernel_rfl)
noncomputable def kAt1 : Known := ⟨131, [.sc (.int .i64 1), .row 1 3 [.int .i64 1, .int .i64 0, .int .i64 1]], [.int .i64 0], .tup [.int .i64 1, .bool true]⟩
theorem kAt1_ok : Stands noMemo kAt1 := stands 300 (by kernel_rfl) (by kernel_rfl) (by kernel_rfl) (by kernel_rfl) (by kernel_rfl)
noncomputable def memoC : Memo := memoT [23, 131] [kCodes, kWake, kAt0, kAt1]
theorem memoC_ok (ω : Bool → Int) (hω : ω true ≠ ω false) : MemoOk ω memoC := memoT_ok ω hω (noMemo_ok ω) (fun K hK => by
  simp only [List.mem_cons, List.not_mem_nil, or_false] at hK
  rcases hK with rfl | rfl | rfl | rfl
  · exact kCodes_ok
  · exact kWake_ok
  · exact kAt0_ok
  · exact kAt1_ok)
noncomputable def memoG : Memo := memoT [23, 131] [kQueue, kSamp, kWake, kAt0, kAt1]
theorem memoG_ok (ω : Bool → Int) (hω : ω true ≠ ω false) : MemoOk ω memoG := memoT_ok ω hω (noMemo_ok ω) (fun K hK => by
  simp only [List.mem_cons, List.not_mem_nil, or_false] at hK
  rcases hK with rfl | rfl | rfl | rfl | rfl
  · exact kQueue_ok
  · exact kSamp_ok
  · exact kWake_ok
  · exact kAt0_ok
  · exact kAt1_ok)
end Go.Proofs.YtenadfoomejmkaaGreatDoor.Eng
