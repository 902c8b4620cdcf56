import Derived.Test.YtbpmmabdjabfcaaTableRow
import Derived.Test.YtbpmmabdjabfcaaPTx0
/- Package table: so many rows, read from the box. Written by wip/tablerows.py. -/
namespace Go.Proofs.Ytbpmmabdjabfcaa.Table
open Go.RowKit Go.Proofs.YtbpmmabdjabfcaaW.PrintWords Go.Proofs.YtbpmmabdjabfcaaW.PrintLast Go.Proofs.YtbpmmabdjabfcaaW.PrintMore Go.Proofs.Ytbpmmabdjabfcaa.Box Go.Proofs.Ytbpmmabdjabfcaa.PT
theorem getD_drop (ws : List Int) (a j : Nat) : (ws.drop a).getD j 0 = ws.getD (a + j) 0 := by
  rw [List.getD_eq_getElem?_getD, List.getD_eq_getElem?_getD, List.getElem?_drop]
theorem shortS_drop (ws : List Int) (s : Bool) (a k : Nat) : shortS (ws.drop a) (shortS ws s a) k = shortS ws s (a + k) := by
  unfold shortS
  rw [List.length_drop]
  by_cases h : ws.length < a
  · rw [decide_eq_true h, decide_eq_true (show ws.length < a + k by omega)]; simp
  · rw [decide_eq_false h, Bool.or_false]
    congr 1
    rw [decide_eq_decide]
    omega
theorem part_calls' (w0 : World) (g gp : Nat) (ws : List Int) (s : Bool) (w : World) (hw : Words ws) (hI : IsBox w0 w g 59 [] ws s) (hgp : w.heap[gp]? = some (.cells #[.pointer (some ⟨g, 0, none⟩)] 57 (0, 0))) (hne : gp ≠ g) (hB : Below w0.heap.size w0 w) :
    Calls Try.prog 32 #[.func (.func 67) #[] #[.pointer (some ⟨gp, 0, none⟩)]] w fun e w' => e = .returned (.agg #[(.int .i64 (ws.getD 0 0)), (.int .i64 (ws.getD 1 0))]) ∧ IsBox w0 w' g 59 [] (ws.drop 2) (shortS ws s 2) ∧ Below w0.heap.size w0 w' ∧ KeepBut w w' g none := by
  have h := part_calls w0 g gp ws s w hw hI hgp hne hB
  have e0 : nextV ws = ws.getD 0 0 := nextV_drop ws 0
  have e1 : nextV ws.tail = ws.getD 1 0 := by rw [← List.drop_one]; exact nextV_drop ws 1
  have e2 : ws.tail.tail = ws.drop 2 := by rw [← List.drop_one, ← List.drop_one, List.drop_drop]
  have e3 : nextS ws.tail (nextS ws s) = shortS ws s 2 := by
    have h0 := nextS_drop ws s 0
    have h1 := nextS_drop ws s 1
    rw [List.drop_zero] at h0
    rw [show shortS ws s 0 = s by simp [shortS]] at h0
    rw [← List.drop_one, h0, h1]
  rw [e0, e1, e2, e3] at h
  exact h
theorem isbox_at {w0 w w1 : World} {g T b : Nat} {rest : List Value} {ws : List Int} {s : Bool} (hI : IsBox w0 w g T rest ws s) (hb : Below b w w1) (hg : g < b) : IsBox w0 w1 g T rest ws s := by
  obtain ⟨A, c, h, r⟩ := hI
  exact ⟨A, c, (hb.block g hg).trans h, r⟩
theorem info_64 : (Try.prog.info? 64).map (fun i => (i.zero, i.size, i.bytes)) = some (some (.agg #[(.int .i64 0), (.int .i64 0)]), 2, 16) := by kernel_rfl
theorem info_68 : (Try.prog.info? 68).map (fun i => (i.zero, i.size, i.bytes)) = some (some (.agg #[(.int .i64 0), (.int .i64 0), (.int .i64 0), (.int .i64 0), (.int .i64 0), (.int .i64 0), (.int .u32 0)]), 7, 56) := by kernel_rfl
theorem info_72 : (Try.prog.info? 72).map (fun i => (i.zero, i.size, i.bytes)) = some (some (.agg #[(.int .i64 0), (.int .i64 0), (.int .i64 0)]), 3, 24) := by kernel_rfl
/-- So many rows, in plain words. -/
def parts (ws : List Int) (n : Nat) : List S64 := (List.range n).map fun i => ⟨ws.getD (2 * i + 0) 0, ws.getD (2 * i + 1) 0⟩
theorem parts_succ (ws : List Int) (n : Nat) : parts ws (n + 1) = parts ws n ++ [⟨ws.getD (2 * n + 0) 0, ws.getD (2 * n + 1) 0⟩] := by
  unfold parts
  rw [List.range_succ, List.map_append]
  rfl
theorem parts_length (ws : List Int) (n : Nat) : (parts ws n).length = n := by simp [parts]
set_option maxHeartbeats 2000000 in
theorem rows_part (w0 : World) (g : Nat) (ws : List Int) (s : Bool) (w : World) (n : Nat) (hn : n ≤ 64) (hw : Words ws) (hI : IsBox w0 w g 59 [] ws s) (hB : Below w0.heap.size w0 w) :
    Calls Try.prog 31 #[.pointer (some ⟨g, 0, none⟩), .int .i64 n, .func (.func 32) #[] #[]] w fun e w' => ∃ v : Value, e = .returned v ∧ Kd.R k64 64 w' (w.heap.size + 1) (fun k => w.heap.size + 1 ≤ k) v (parts ws n) ∧ IsBox w0 w' g 59 [] (ws.drop (2 * n)) (shortS ws s (2 * n)) ∧ Below w0.heap.size w0 w' ∧ KeepBut w w' g none := by
  have HW := Aside0.mk hw
  have hge := hI.ge
  have hgw : g < w.heap.size := by obtain ⟨A, c, hg, _⟩ := hI; exact blk_lt hg
  have hg0 := blk_new w (.cells #[.pointer (some ⟨g, 0, none⟩)] 57)
  have hb1 := below_alloc (Below.refl _ w) (.cells #[.pointer (some ⟨g, 0, none⟩)] 57)
  have hs1 : (w.alloc (.cells #[.pointer (some ⟨g, 0, none⟩)] 57)).heap.size = w.heap.size + 1 := by simp
  have HI := Aside0.mk (hI.below hb1)
  have HB := Aside0.mk (hB.trans (hb1.mono hB.size))
  have HK := Aside0.mk (KeepBut.of_below hb1 g none)
  have HG := Aside0.mk hg0
  clear hw hI hB hb1 hg0
  have hu := Try.underlying24
  go_enter Try.func31, Try.ntmps31
  go_wp2
  generalize w.alloc (.cells #[.pointer (some ⟨g, 0, none⟩)] 57) = w1 at *
  go_loopw [7, 9] (fun v7 v9 wr => ∃ i : Nat, i ≤ n ∧ v9 = .int .i64 i ∧ Aside0 (Kd.R k64 64 wr (w.heap.size + 1) (fun k => w.heap.size + 1 ≤ k) v7 (parts ws i)) ∧ Aside0 (IsBox w0 wr g 59 [] (ws.drop (2 * i)) (shortS ws s (2 * i))) ∧ Aside0 (wr.heap[w.heap.size]? = some (.cells #[.pointer (some ⟨g, 0, none⟩)] 57 (0, 0))) ∧ Aside0 (Below w0.heap.size w0 wr) ∧ Aside0 (KeepBut w wr g none)) (fun _ v _ => n - (intOf v).toNat)
  case atStart => exact ⟨0, by omega, rfl, ⟨by simpa [parts] using Kd.R_nil k64 64 w1 (w.heap.size + 1) (fun k => w.heap.size + 1 ≤ k)⟩, ⟨by simpa [shortS] using HI.out⟩, HG, HB, HK⟩
  case round =>
    obtain ⟨i, hi, rfl, HR, HI, HG, HB, HK⟩ := hrel
    by_cases hlt : i < n
    · have hd : decide (i < n) = true := decide_eq_true hlt
      have hc := part_calls' w0 g w.heap.size (ws.drop (2 * i)) (shortS ws s (2 * i)) wr (HW.out.drop _) HI.out HG.out (by omega) HB.out
      simp only [getD_drop, shortS_drop, List.drop_drop] at hc
      rw [show 2 * i + 2 = 2 * (i + 1) by omega] at hc
      have HC := Aside0.mk hc
      clear hc
      have hsz := parts_length ws i
      go_wp2_with fail
      refine HC.out.mono ?_
      rintro e w2 ⟨rfl, h1, h2, h3⟩
      have hK0 := HK.out
      have hsz2 : w.heap.size + 1 ≤ w2.heap.size := by have a := h3.1; have b := blk_lt HG.out; omega
      have HR2 := Aside0.mk (Kd.R_keep HR.out h3 (fun k hk => by show k ≠ g; omega))
      have HG2 := Aside0.mk (h3.blk HG.out (by omega) (by simp))
      have HK2 := Aside0.mk (hK0.trans h3 (.inl rfl))
      have HI2 := Aside0.mk h1
      have HB2 := Aside0.mk h2
      clear h1 h2 h3 hK0 HC
      go_wp2_with (at_builtin; refine Kd.R_append k64 (w0 := w2) (w.heap.size + 1) rfl (.tmp 11) (.tmp 15) 24 64 (.agg #[(.int .i64 0), (.int .i64 0)]) 16 rfl hu info_64 rfl (by decide) (by omega) _ (parts ws i) (⟨ws.getD (2 * i + 0) 0, ws.getD (2 * i + 1) 0⟩ : S64) [(.int .i64 (ws.getD (2 * i + 0) 0)), (.int .i64 (ws.getD (2 * i + 1) 0))] (fun k => w.heap.size + 1 ≤ k) (fun _ => False) rfl rfl ?aP (fun _ h => h.elim) ?aF ?aO ?aB ?aS ?aL ?_)
      case aP => exact k64_mkM _ _ _ (⟨ws.getD (2 * i + 0) 0, ws.getD (2 * i + 1) 0⟩ : S64)
      case aF => exact fun k hk => by omega
      case aO => exact HR2.out
      case aB => exact Below.refl _ _
      case aS => exact hsz2
      case aL => rw [hsz]; omega
      intro v1 w3 h1 h2 h3 h4
      have HR3 : Aside0 (Kd.R k64 64 w3 (w.heap.size + 1) (fun k => w.heap.size + 1 ≤ k) v1 (parts ws (i + 1))) := ⟨by rw [parts_succ]; exact h1⟩
      have HG3 := Aside0.mk ((h2.block _ (by omega)).trans HG2.out)
      have HI3 := Aside0.mk (isbox_at HI2.out h2 (by omega))
      have HB3 := Aside0.mk (HB2.out.trans (h2.mono (by omega)))
      have HK3 : Aside0 (KeepBut w w3 g none) := ⟨⟨by have a := HK2.out.1; have b := h2.size; omega, fun k hk q1 q2 => (h2.block k (by omega)).trans (HK2.out.2 k hk q1 q2)⟩⟩
      clear h1 h2 h3 h4
      go_wp2
      go_roundw
      case rel => exact ⟨i + 1, by omega, by go_num, HR3, HI3, HG3, HB3, HK3⟩
      case measure => simp [intOf]; omega
    · obtain rfl : i = n := by omega
      have hd : decide (i < i) = false := decide_eq_false (by omega)
      go_wp2
      go_ret
      exact ⟨_, rfl, HR.out, HI.out, HB.out, HK.out⟩
/-- So many rows, in plain words. -/
def chans (ws : List Int) (n : Nat) : List S68 := (List.range n).map fun i => ⟨ws.getD (7 * i + 0) 0, ws.getD (7 * i + 1) 0, ws.getD (7 * i + 2) 0, ws.getD (7 * i + 3) 0, ws.getD (7 * i + 4) 0, ws.getD (7 * i + 5) 0, ws.getD (7 * i + 6) 0⟩
theorem chans_succ (ws : List Int) (n : Nat) : chans ws (n + 1) = chans ws n ++ [⟨ws.getD (7 * n + 0) 0, ws.getD (7 * n + 1) 0, ws.getD (7 * n + 2) 0, ws.getD (7 * n + 3) 0, ws.getD (7 * n + 4) 0, ws.getD (7 * n + 5) 0, ws.getD (7 * n + 6) 0⟩] := by
  unfold chans
  rw [List.range_succ, List.map_append]
  rfl
theorem chans_length (ws : List Int) (n : Nat) : (chans ws n).length = n := by simp [chans]
set_option maxHeartbeats 2000000 in
theorem rows_chan (w0 : World) (g : Nat) (ws : List Int) (s : Bool) (w : World) (n : Nat) (hn : n ≤ 64) (hw : Words ws) (hI : IsBox w0 w g 59 [] ws s) (hB : Below w0.heap.size w0 w) :
    Calls Try.prog 33 #[.pointer (some ⟨g, 0, none⟩), .int .i64 n, .func (.func 34) #[] #[]] w fun e w' => ∃ v : Value, e = .returned v ∧ Kd.R k68 68 w' (w.heap.size + 1) (fun k => w.heap.size + 1 ≤ k) v (chans ws n) ∧ IsBox w0 w' g 59 [] (ws.drop (7 * n)) (shortS ws s (7 * n)) ∧ Below w0.heap.size w0 w' ∧ KeepBut w w' g none := by
  have HW := Aside0.mk hw
  have hge := hI.ge
  have hgw : g < w.heap.size := by obtain ⟨A, c, hg, _⟩ := hI; exact blk_lt hg
  have hg0 := blk_new w (.cells #[.pointer (some ⟨g, 0, none⟩)] 57)
  have hb1 := below_alloc (Below.refl _ w) (.cells #[.pointer (some ⟨g, 0, none⟩)] 57)
  have hs1 : (w.alloc (.cells #[.pointer (some ⟨g, 0, none⟩)] 57)).heap.size = w.heap.size + 1 := by simp
  have HI := Aside0.mk (hI.below hb1)
  have HB := Aside0.mk (hB.trans (hb1.mono hB.size))
  have HK := Aside0.mk (KeepBut.of_below hb1 g none)
  have HG := Aside0.mk hg0
  clear hw hI hB hb1 hg0
  have hu := Try.underlying25
  go_enter Try.func33, Try.ntmps33
  go_wp2
  generalize w.alloc (.cells #[.pointer (some ⟨g, 0, none⟩)] 57) = w1 at *
  go_loopw [7, 9] (fun v7 v9 wr => ∃ i : Nat, i ≤ n ∧ v9 = .int .i64 i ∧ Aside0 (Kd.R k68 68 wr (w.heap.size + 1) (fun k => w.heap.size + 1 ≤ k) v7 (chans ws i)) ∧ Aside0 (IsBox w0 wr g 59 [] (ws.drop (7 * i)) (shortS ws s (7 * i))) ∧ Aside0 (wr.heap[w.heap.size]? = some (.cells #[.pointer (some ⟨g, 0, none⟩)] 57 (0, 0))) ∧ Aside0 (Below w0.heap.size w0 wr) ∧ Aside0 (KeepBut w wr g none)) (fun _ v _ => n - (intOf v).toNat)
  case atStart => exact ⟨0, by omega, rfl, ⟨by simpa [chans] using Kd.R_nil k68 68 w1 (w.heap.size + 1) (fun k => w.heap.size + 1 ≤ k)⟩, ⟨by simpa [shortS] using HI.out⟩, HG, HB, HK⟩
  case round =>
    obtain ⟨i, hi, rfl, HR, HI, HG, HB, HK⟩ := hrel
    by_cases hlt : i < n
    · have hd : decide (i < n) = true := decide_eq_true hlt
      have hc := channel_calls w0 g w.heap.size (ws.drop (7 * i)) (shortS ws s (7 * i)) wr (HW.out.drop _) HI.out HG.out (by omega) HB.out
      simp only [getD_drop, shortS_drop, List.drop_drop] at hc
      rw [show 7 * i + 7 = 7 * (i + 1) by omega] at hc
      have HC := Aside0.mk hc
      clear hc
      have hsz := chans_length ws i
      go_wp2_with fail
      refine HC.out.mono ?_
      rintro e w2 ⟨rfl, h1, h2, h3⟩
      have hK0 := HK.out
      have hsz2 : w.heap.size + 1 ≤ w2.heap.size := by have a := h3.1; have b := blk_lt HG.out; omega
      have HR2 := Aside0.mk (Kd.R_keep HR.out h3 (fun k hk => by show k ≠ g; omega))
      have HG2 := Aside0.mk (h3.blk HG.out (by omega) (by simp))
      have HK2 := Aside0.mk (hK0.trans h3 (.inl rfl))
      have HI2 := Aside0.mk h1
      have HB2 := Aside0.mk h2
      clear h1 h2 h3 hK0 HC
      go_wp2_with (at_builtin; refine Kd.R_append k68 (w0 := w2) (w.heap.size + 1) rfl (.tmp 11) (.tmp 15) 25 68 (.agg #[(.int .i64 0), (.int .i64 0), (.int .i64 0), (.int .i64 0), (.int .i64 0), (.int .i64 0), (.int .u32 0)]) 56 rfl hu info_68 rfl (by decide) (by omega) _ (chans ws i) (⟨ws.getD (7 * i + 0) 0, ws.getD (7 * i + 1) 0, ws.getD (7 * i + 2) 0, ws.getD (7 * i + 3) 0, ws.getD (7 * i + 4) 0, ws.getD (7 * i + 5) 0, ws.getD (7 * i + 6) 0⟩ : S68) [(.int .i64 (ws.getD (7 * i + 0) 0)), (.int .i64 (ws.getD (7 * i + 1) 0)), (.int .i64 (ws.getD (7 * i + 2) 0)), (.int .i64 (ws.getD (7 * i + 3) 0)), (.int .i64 (ws.getD (7 * i + 4) 0)), (.int .i64 (ws.getD (7 * i + 5) 0)), (.int .u32 (ws.getD (7 * i + 6) 0))] (fun k => w.heap.size + 1 ≤ k) (fun _ => False) rfl rfl ?aP (fun _ h => h.elim) ?aF ?aO ?aB ?aS ?aL ?_)
      case aP => exact k68_mkM _ _ _ (⟨ws.getD (7 * i + 0) 0, ws.getD (7 * i + 1) 0, ws.getD (7 * i + 2) 0, ws.getD (7 * i + 3) 0, ws.getD (7 * i + 4) 0, ws.getD (7 * i + 5) 0, ws.getD (7 * i + 6) 0⟩ : S68)
      case aF => exact fun k hk => by omega
      case aO => exact HR2.out
      case aB => exact Below.refl _ _
      case aS => exact hsz2
      case aL => rw [hsz]; omega
      intro v1 w3 h1 h2 h3 h4
      have HR3 : Aside0 (Kd.R k68 68 w3 (w.heap.size + 1) (fun k => w.heap.size + 1 ≤ k) v1 (chans ws (i + 1))) := ⟨by rw [chans_succ]; exact h1⟩
      have HG3 := Aside0.mk ((h2.block _ (by omega)).trans HG2.out)
      have HI3 := Aside0.mk (isbox_at HI2.out h2 (by omega))
      have HB3 := Aside0.mk (HB2.out.trans (h2.mono (by omega)))
      have HK3 : Aside0 (KeepBut w w3 g none) := ⟨⟨by have a := HK2.out.1; have b := h2.size; omega, fun k hk q1 q2 => (h2.block k (by omega)).trans (HK2.out.2 k hk q1 q2)⟩⟩
      clear h1 h2 h3 h4
      go_wp2
      go_roundw
      case rel => exact ⟨i + 1, by omega, by go_num, HR3, HI3, HG3, HB3, HK3⟩
      case measure => simp [intOf]; omega
    · obtain rfl : i = n := by omega
      have hd : decide (i < i) = false := decide_eq_false (by omega)
      go_wp2
      go_ret
      exact ⟨_, rfl, HR.out, HI.out, HB.out, HK.out⟩
/-- So many rows, in plain words. -/
def windows (ws : List Int) (n : Nat) : List S72 := (List.range n).map fun i => ⟨ws.getD (3 * i + 0) 0, ws.getD (3 * i + 1) 0, ws.getD (3 * i + 2) 0⟩
theorem windows_succ (ws : List Int) (n : Nat) : windows ws (n + 1) = windows ws n ++ [⟨ws.getD (3 * n + 0) 0, ws.getD (3 * n + 1) 0, ws.getD (3 * n + 2) 0⟩] := by
  unfold windows
  rw [List.range_succ, List.map_append]
  rfl
theorem windows_length (ws : List Int) (n : Nat) : (windows ws n).length = n := by simp [windows]
set_option maxHeartbeats 2000000 in
theorem rows_window (w0 : World) (g : Nat) (ws : List Int) (s : Bool) (w : World) (n : Nat) (hn : n ≤ 64) (hw : Words ws) (hI : IsBox w0 w g 59 [] ws s) (hB : Below w0.heap.size w0 w) :
    Calls Try.prog 35 #[.pointer (some ⟨g, 0, none⟩), .int .i64 n, .func (.func 36) #[] #[]] w fun e w' => ∃ v : Value, e = .returned v ∧ Kd.R k72 72 w' (w.heap.size + 1) (fun k => w.heap.size + 1 ≤ k) v (windows ws n) ∧ IsBox w0 w' g 59 [] (ws.drop (3 * n)) (shortS ws s (3 * n)) ∧ Below w0.heap.size w0 w' ∧ KeepBut w w' g none := by
  have HW := Aside0.mk hw
  have hge := hI.ge
  have hgw : g < w.heap.size := by obtain ⟨A, c, hg, _⟩ := hI; exact blk_lt hg
  have hg0 := blk_new w (.cells #[.pointer (some ⟨g, 0, none⟩)] 57)
  have hb1 := below_alloc (Below.refl _ w) (.cells #[.pointer (some ⟨g, 0, none⟩)] 57)
  have hs1 : (w.alloc (.cells #[.pointer (some ⟨g, 0, none⟩)] 57)).heap.size = w.heap.size + 1 := by simp
  have HI := Aside0.mk (hI.below hb1)
  have HB := Aside0.mk (hB.trans (hb1.mono hB.size))
  have HK := Aside0.mk (KeepBut.of_below hb1 g none)
  have HG := Aside0.mk hg0
  clear hw hI hB hb1 hg0
  have hu := Try.underlying26
  go_enter Try.func35, Try.ntmps35
  go_wp2
  generalize w.alloc (.cells #[.pointer (some ⟨g, 0, none⟩)] 57) = w1 at *
  go_loopw [7, 9] (fun v7 v9 wr => ∃ i : Nat, i ≤ n ∧ v9 = .int .i64 i ∧ Aside0 (Kd.R k72 72 wr (w.heap.size + 1) (fun k => w.heap.size + 1 ≤ k) v7 (windows ws i)) ∧ Aside0 (IsBox w0 wr g 59 [] (ws.drop (3 * i)) (shortS ws s (3 * i))) ∧ Aside0 (wr.heap[w.heap.size]? = some (.cells #[.pointer (some ⟨g, 0, none⟩)] 57 (0, 0))) ∧ Aside0 (Below w0.heap.size w0 wr) ∧ Aside0 (KeepBut w wr g none)) (fun _ v _ => n - (intOf v).toNat)
  case atStart => exact ⟨0, by omega, rfl, ⟨by simpa [windows] using Kd.R_nil k72 72 w1 (w.heap.size + 1) (fun k => w.heap.size + 1 ≤ k)⟩, ⟨by simpa [shortS] using HI.out⟩, HG, HB, HK⟩
  case round =>
    obtain ⟨i, hi, rfl, HR, HI, HG, HB, HK⟩ := hrel
    by_cases hlt : i < n
    · have hd : decide (i < n) = true := decide_eq_true hlt
      have hc := window_calls w0 g w.heap.size (ws.drop (3 * i)) (shortS ws s (3 * i)) wr (HW.out.drop _) HI.out HG.out (by omega) HB.out
      simp only [getD_drop, shortS_drop, List.drop_drop] at hc
      rw [show 3 * i + 3 = 3 * (i + 1) by omega] at hc
      have HC := Aside0.mk hc
      clear hc
      have hsz := windows_length ws i
      go_wp2_with fail
      refine HC.out.mono ?_
      rintro e w2 ⟨rfl, h1, h2, h3⟩
      have hK0 := HK.out
      have hsz2 : w.heap.size + 1 ≤ w2.heap.size := by have a := h3.1; have b := blk_lt HG.out; omega
      have HR2 := Aside0.mk (Kd.R_keep HR.out h3 (fun k hk => by show k ≠ g; omega))
      have HG2 := Aside0.mk (h3.blk HG.out (by omega) (by simp))
      have HK2 := Aside0.mk (hK0.trans h3 (.inl rfl))
      have HI2 := Aside0.mk h1
      have HB2 := Aside0.mk h2
      clear h1 h2 h3 hK0 HC
      go_wp2_with (at_builtin; refine Kd.R_append k72 (w0 := w2) (w.heap.size + 1) rfl (.tmp 11) (.tmp 15) 26 72 (.agg #[(.int .i64 0), (.int .i64 0), (.int .i64 0)]) 24 rfl hu info_72 rfl (by decide) (by omega) _ (windows ws i) (⟨ws.getD (3 * i + 0) 0, ws.getD (3 * i + 1) 0, ws.getD (3 * i + 2) 0⟩ : S72) [(.int .i64 (ws.getD (3 * i + 0) 0)), (.int .i64 (ws.getD (3 * i + 1) 0)), (.int .i64 (ws.getD (3 * i + 2) 0))] (fun k => w.heap.size + 1 ≤ k) (fun _ => False) rfl rfl ?aP (fun _ h => h.elim) ?aF ?aO ?aB ?aS ?aL ?_)
      case aP => exact k72_mkM _ _ _ (⟨ws.getD (3 * i + 0) 0, ws.getD (3 * i + 1) 0, ws.getD (3 * i + 2) 0⟩ : S72)
      case aF => exact fun k hk => by omega
      case aO => exact HR2.out
      case aB => exact Below.refl _ _
      case aS => exact hsz2
      case aL => rw [hsz]; omega
      intro v1 w3 h1 h2 h3 h4
      have HR3 : Aside0 (Kd.R k72 72 w3 (w.heap.size + 1) (fun k => w.heap.size + 1 ≤ k) v1 (windows ws (i + 1))) := ⟨by rw [windows_succ]; exact h1⟩
      have HG3 := Aside0.mk ((h2.block _ (by omega)).trans HG2.out)
      have HI3 := Aside0.mk (isbox_at HI2.out h2 (by omega))
      have HB3 := Aside0.mk (HB2.out.trans (h2.mono (by omega)))
      have HK3 : Aside0 (KeepBut w w3 g none) := ⟨⟨by have a := HK2.out.1; have b := h2.size; omega, fun k hk q1 q2 => (h2.block k (by omega)).trans (HK2.out.2 k hk q1 q2)⟩⟩
      clear h1 h2 h3 h4
      go_wp2
      go_roundw
      case rel => exact ⟨i + 1, by omega, by go_num, HR3, HI3, HG3, HB3, HK3⟩
      case measure => simp [intOf]; omega
    · obtain rfl : i = n := by omega
      have hd : decide (i < i) = false := decide_eq_false (by omega)
      go_wp2
      go_ret
      exact ⟨_, rfl, HR.out, HI.out, HB.out, HK.out⟩
end Go.Proofs.Ytbpmmabdjabfcaa.Table
