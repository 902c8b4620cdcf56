import Derived.Test.YtbpmmabdjabfcaaTableRows
/- Package script: the reader and its lists, in plain words. Written by wip/scriptread.py. -/
namespace Go.Proofs.Ytbpmmabdjabfcaa.Script
open Go.RowKit Go.Proofs.YtbpmmabdjabfcaaW.PrintWords Go.Proofs.YtbpmmabdjabfcaaW.PrintLast Go.Proofs.YtbpmmabdjabfcaaW.PrintMore Go.Proofs.Ytbpmmabdjabfcaa.Box Go.Proofs.Ytbpmmabdjabfcaa.PT Go.Proofs.Ytbpmmabdjabfcaa.Table
set_option linter.unusedSimpArgs false
set_option linter.unusedVariables false
/-- A reader's state: what is left, too few, the first error. -/
structure St where
  ws : List Int
  s : Bool
  e : Int
def stF (q : St) (c : Int) : St := ⟨q.ws, q.s, if q.e = 0 then c else q.e⟩
def stW (q : St) : St := ⟨q.ws.tail, nextS q.ws q.s, if nextS q.ws q.s = true then (if q.e = 0 then 8 else q.e) else q.e⟩
/-- Block g is a reader in this state. -/
def IsRd (w0 W : World) (g : Nat) (q : St) : Prop := IsBox w0 W g 95 [.int .i64 q.e] q.ws q.s
theorem IsRd.c2 {w0 W : World} {g : Nat} {q : St} (h : IsRd w0 W g q) : W.cell? ⟨g, 2, none⟩ = some (.int .i64 q.e) := by
  obtain ⟨A, c, hg, _⟩ := h
  exact (blk_cell hg 2).trans rfl
theorem IsRd.c1 {w0 W : World} {g : Nat} {q : St} (h : IsRd w0 W g q) : W.cell? ⟨g, 1, none⟩ = some (.bool q.s) := by
  obtain ⟨A, c, hg, _⟩ := h
  exact (blk_cell hg 1).trans rfl
theorem IsRd.f2 {w0 W : World} {g : Nat} {q : St} (h : IsRd w0 W g q) : W.frozen? ⟨g, 2, none⟩ = false := by
  obtain ⟨A, c, hg, _⟩ := h
  exact blk_frozen hg 2
theorem IsRd.lt {w0 W : World} {g : Nat} {q : St} (h : IsRd w0 W g q) : g < W.heap.size := by
  obtain ⟨A, c, hg, _⟩ := h
  exact blk_lt hg
theorem IsRd.ge {w0 W : World} {g : Nat} {q : St} (h : IsRd w0 W g q) : w0.heap.size ≤ g := by
  obtain ⟨A, c, hg, h, _⟩ := h
  exact h
theorem IsRd.set {w0 W : World} {g : Nat} {q : St} (h : IsRd w0 W g q) (v : Int) : IsRd w0 (W.setCell ⟨g, 2, none⟩ (.int .i64 v)) g ⟨q.ws, q.s, v⟩ := by
  obtain ⟨A, c, hg, h⟩ := h
  exact ⟨A, c, blk_put hg 2 _ rfl, h⟩
theorem IsRd.to {w0 W W' : World} {g : Nat} {q : St} (h : IsRd w0 W g q) (hb : Below W.heap.size W W') : IsRd w0 W' g q := IsBox.below h hb
/-- What a call of a reader's leaves. -/
structure Rd (w0 W : World) (g : Nat) (q : St) (w' : World) : Prop where
  rd : IsRd w0 w' g q
  bel : Below w0.heap.size w0 w'
  keep : KeepBut W w' g none
theorem fault_calls (w0 W : World) (g : Nat) (q : St) (c : Int) (h : IsRd w0 W g q) (hB : Below w0.heap.size w0 W) : Calls Try.prog 56 #[.pointer (some ⟨g, 0, none⟩), .int .i64 c] W fun e w' => e = .returned (.tuple #[]) ∧ Rd w0 W g (stF q c) w' := by
  have hc := h.c2
  have hf := h.f2
  have HI := Aside0.mk h
  have HB := Aside0.mk hB
  have HS := Aside0.mk (h.set c)
  have HG := Aside0.mk h.ge
  obtain ⟨ws, s, e⟩ := q
  clear h hB
  by_cases h0 : e = 0
  · subst h0
    go_enter Try.func56, Try.ntmps56
    go_wp2
    (try simp only [Exit.inBlock, Exit.then])
    refine bodyPost_end (by simp [results, Try.results56, go_sem]; try rfl) rfl ?_
    exact ⟨rfl, HS.out, HB.out.setCell HG.out _, (KeepBut.refl W g none).set_ _ _⟩
  · have e1 : (e == 0) = false := by simp [h0]
    have HE : Aside0 (stF ⟨ws, s, e⟩ c = ⟨ws, s, e⟩) := ⟨by unfold stF; rw [if_neg h0]⟩
    rw [HE.out]
    clear h0
    go_enter Try.func56, Try.ntmps56
    go_wp2
    (try simp only [Exit.inBlock, Exit.then])
    refine bodyPost_end (by simp [results, Try.results56, go_sem]; try rfl) rfl ?_
    exact ⟨rfl, HI.out, HB.out, KeepBut.refl W g none⟩
theorem word_calls (w0 W : World) (g : Nat) (q : St) (h : IsRd w0 W g q) (hB : Below w0.heap.size w0 W) : Calls Try.prog 76 #[.pointer (some ⟨g, 0, none⟩)] W fun e w' => e = .returned (.int .u32 (nextV q.ws)) ∧ Rd w0 W g (stW q) w' := by
  obtain ⟨ws, s, e⟩ := q
  have HN := Aside0.mk (next_any 95 [.int .i64 e] g ws s w0 W h hB)
  clear h hB
  show Calls _ _ _ _ fun e' w' => e' = .returned (.int .u32 (nextV ws)) ∧ Rd w0 W g (stW ⟨ws, s, e⟩) w'
  obtain ⟨v, hv⟩ : ∃ v, nextV ws = v := ⟨_, rfl⟩
  obtain ⟨b, hb⟩ : ∃ b, nextS ws s = b := ⟨_, rfl⟩
  rw [hv, hb] at HN
  rw [hv]
  have HST : Aside0 (stW ⟨ws, s, e⟩ = if b = true then stF ⟨ws.tail, b, e⟩ 8 else ⟨ws.tail, b, e⟩) := ⟨by unfold stW; rw [hb]; cases b <;> rfl⟩
  clear hv hb
  go_enter Try.func76, Try.ntmps76
  go_wp2_with fail
  refine HN.out.mono ?_
  rintro e' w1 ⟨rfl, h1, h2, h3⟩
  have hI : IsRd w0 w1 g ⟨ws.tail, b, e⟩ := h1
  have hc1 := hI.c1
  have HI := Aside0.mk hI
  have HB := Aside0.mk h2
  have HK := Aside0.mk h3
  clear h1 h2 h3 hI HN
  cases b with
  | true =>
    go_wp2_with fail
    refine (fault_calls w0 w1 g _ 8 HI.out HB.out).mono ?_
    rintro e' w2 ⟨rfl, hr⟩
    have HR := Aside0.mk hr
    clear hr
    go_wp2
    go_ret
    exact ⟨rfl, by rw [HST.out]; exact HR.out.rd, HR.out.bel, HK.out.trans HR.out.keep (.inl rfl)⟩
  | false =>
    go_wp2
    go_ret
    exact ⟨rfl, by rw [HST.out]; exact HI.out, HB.out, HK.out⟩
theorem number_calls (w0 W : World) (g : Nat) (q : St) (hw : Words q.ws) (h : IsRd w0 W g q) (hB : Below w0.heap.size w0 W) : Calls Try.prog 55 #[.pointer (some ⟨g, 0, none⟩)] W fun e w' => e = .returned (.int .i64 (nextV q.ws)) ∧ Rd w0 W g (stW q) w' := by
  have HN := Aside0.mk (word_calls w0 W g q h hB)
  have hv := hw.head
  generalize nextV q.ws = v at *
  clear h hB hw
  go_enter Try.func55, Try.ntmps55
  go_wp2_with fail
  refine HN.out.mono ?_
  rintro e' w1 ⟨rfl, hr⟩
  have HR := Aside0.mk hr
  have hcv : IntKind.i64.wrap v = v := by rw [i64_w]; unfold wrap64; omega
  clear hr
  go_wp2
  go_ret
  exact ⟨rfl, HR.out⟩
/-! ### lists -/
/-- So many at most, while there is no error. -/
def lsP {α : Type} (one : St → α × St) : Nat → St → List α × St
  | 0, q => ([], q)
  | n + 1, q => if q.e = 0 then ((one q).1 :: (lsP one n (one q).2).1, (lsP one n (one q).2).2) else ([], q)
def lsR {α : Type} (one : St → α × St) (bound : Int) (q : St) : List α × St := lsP one (nextV q.ws).toNat (if bound < nextV q.ws then stF (stW q) 7 else stW q)
theorem lsP_stop {α : Type} (one : St → α × St) (n : Nat) {q : St} (h : q.e ≠ 0) : lsP one n q = ([], q) := by
  cases n with
  | zero => rfl
  | succ n => unfold lsP; rw [if_neg h]
theorem lsP_step {α : Type} (one : St → α × St) (n : Nat) {q : St} (h : q.e = 0) : lsP one (n + 1) q = ((one q).1 :: (lsP one n (one q).2).1, (lsP one n (one q).2).2) := by
  show (if q.e = 0 then _ else _) = _
  rw [if_pos h]
def oneW (q : St) : Int × St := (nextV q.ws, stW q)
theorem Words.stW {q : St} (h : Words q.ws) : Words (stW q).ws := Words.tail h
theorem Words.stF {q : St} (h : Words q.ws) (c : Int) : Words (stF q c).ws := h
theorem lsP_words {α : Type} {one : St → α × St} (ho : ∀ q, Words q.ws → Words (one q).2.ws) (n : Nat) : ∀ q, Words q.ws → Words (lsP one n q).2.ws := by
  induction n with
  | zero => intro q h; exact h
  | succ n ih =>
    intro q h
    unfold lsP
    split
    · exact ih _ (ho q h)
    · exact h
theorem lsR_words {α : Type} {one : St → α × St} (ho : ∀ q, Words q.ws → Words (one q).2.ws) (b : Int) (q : St) (h : Words q.ws) : Words (lsR one b q).2.ws := by
  unfold lsR
  refine lsP_words ho _ _ ?_
  split
  · exact Words.stF (Words.stW h) 7
  · exact Words.stW h
theorem rd_low {w0 W w3 w6 : World} {g : Nat} {q : St} {w1 : World} (h : Rd w0 w1 g q w3) (hl : g < W.heap.size) (hs : W.heap.size ≤ w3.heap.size) (hb : Below W.heap.size w3 w6) (hk : KeepBut W w3 g none) : Rd w0 W g q w6 := by
  refine ⟨?_, h.bel.trans (hb.mono ?_), ?_⟩
  · obtain ⟨A, c, hg, r⟩ := h.rd
    exact ⟨A, c, (hb.block g hl).trans hg, r⟩
  · exact Nat.le_trans h.rd.ge (Nat.le_of_lt hl)
  · exact ⟨Nat.le_trans hs hb.size, fun k hk1 q1 q2 => (hb.block k hk1).trans (hk.2 k hk1 q1 q2)⟩
theorem info_W : (Try.prog.info? 43).map (fun i => (i.zero, i.size, i.bytes)) = some (some (.int .u32 0), 1, 4) := by kernel_rfl
theorem info_I : (Try.prog.info? 3).map (fun i => (i.zero, i.size, i.bytes)) = some (some (.int .i64 0), 1, 8) := by kernel_rfl
theorem u64_of {a : Int} (h : 0 ≤ a ∧ a ≤ 4294967295) : IntKind.u64.wrap a = a := by
  show a % 18446744073709551616 = a
  omega
theorem u32_n {x n : Int} (h0 : 0 ≤ x) (h : x < n) (hn : n ≤ 4294967295) : (x + 1) % 4294967296 = x + 1 := by omega
theorem meas {z L : Int} (h0 : 0 ≤ z) (h : z < L) : (L - intOf (.int .u32 (z + 1))).toNat < (L - intOf (.int .u32 z)).toNat := by simp only [intOf]; omega
set_option maxRecDepth 20000 in
set_option maxHeartbeats 4000000 in
theorem list_u32 (w0 W : World) (g : Nat) (q : St) (bound : Int) (hb : 0 ≤ bound ∧ bound ≤ 4294967295) (hw : Words q.ws) (h : IsRd w0 W g q) (hB : Below w0.heap.size w0 W) :
    Calls Try.prog 77 #[.pointer (some ⟨g, 0, none⟩), .int .u32 bound, .func (.func 76) #[.pointer (some ⟨g, 0, none⟩)] #[]] W fun e w' => ∃ A n c, e = .returned (.slice A n c) ∧ Kd.R (Kd.int .u32) 43 w' W.heap.size (fun j => W.heap.size ≤ j) (.slice A n c) (lsR oneW bound q).1 ∧ Rd w0 W g (lsR oneW bound q).2 w' := by
  have HN := Aside0.mk (word_calls w0 W g q h hB)
  have HLT := Aside0.mk h.lt
  obtain ⟨n, hn⟩ : ∃ n, nextV q.ws = n := ⟨_, rfl⟩
  have hnw := hw.head
  have HQ := Aside0.mk (Words.stW hw)
  obtain ⟨tot, htot⟩ : ∃ t, lsR oneW bound q = t := ⟨_, rfl⟩
  have HLS : Aside0 (lsP oneW n.toNat (if bound < n then stF (stW q) 7 else stW q) = tot) := ⟨by rw [← htot]; unfold lsR; rw [hn]⟩
  rw [hn] at HN hnw
  rw [htot]
  clear htot
  generalize stW q = q1 at *
  have HNN := Aside0.mk hnw
  clear h hB hw hn hnw
  have hu := Try.underlying22
  go_enter Try.func77, Try.ntmps77
  go_wp2_with fail
  refine HN.out.mono ?_
  rintro e' w1 ⟨rfl, hr⟩
  have HR := Aside0.mk hr
  clear hr HN
  by_cases hgt : bound < n
  · have hd0 : decide (bound < n) = true := decide_eq_true hgt
    have HT : Aside0 (([] ++ (lsP oneW n.toNat (stF q1 7)).1, (lsP oneW n.toNat (stF q1 7)).2) = tot) := ⟨by rw [← HLS.out, if_pos hgt]; rfl⟩
    clear hgt hb HLS
    go_wp2_with fail
    refine (fault_calls w0 w1 g q1 7 HR.out.rd HR.out.bel).mono ?_
    rintro e' w2 ⟨rfl, hr⟩
    have HR : Aside0 (Rd w0 W g (stF q1 7) w2) := ⟨⟨hr.rd, hr.bel, HR.out.keep.trans hr.keep (.inl rfl)⟩⟩
    have HQ := Aside0.mk (Words.stF HQ.out 7)
    clear hr
    go_wp2_with fail
    go_loopw [8, 9] (fun v8 v9 wr => ∃ (x : Int) (k : Nat) (Av : Option Addr) (m c : Nat) (L : List Int) (q : St), 0 ≤ x ∧ x ≤ n ∧ v8 = .slice Av m c ∧ v9 = .int .u32 x ∧ Aside0 ((k : Int) = n - x) ∧ Aside0 (Words q.ws) ∧ Aside0 (Rd w0 W g q wr) ∧ Aside0 (Kd.R (Kd.int .u32) 43 wr W.heap.size (fun j => W.heap.size ≤ j) (.slice Av m c) L) ∧ Aside0 ((L ++ (lsP oneW k q).1, (lsP oneW k q).2) = tot) ∧ Aside0 ((L.length : Int) ≤ x)) (fun _ v _ => (n - intOf v).toNat)
    case atStart => exact ⟨0, n.toNat, none, 0, 0, [], (stF q1 7), Int.le_refl _, HNN.out.1, rfl, rfl, ⟨by have := HNN.out; omega⟩, HQ, HR, ⟨Kd.R_nil _ _ _ _ _⟩, HT, ⟨by simp⟩⟩
    case round =>
      clear HR HQ HT
      obtain ⟨x, k, Av, m, c, L, q, hx0, hx1, rfl, rfl, HX, HW, HR, HO, HT, HL⟩ := hrel
      have hc2 := HR.out.rd.c2
      by_cases hlt : x < n
      · have hd : decide (x < n) = true := decide_eq_true hlt
        by_cases he : q.e = 0
        · have e0 : (q.e == 0) = true := by simp [he]
          obtain ⟨k, rfl⟩ : ∃ j, k = j + 1 := ⟨k - 1, by have := HX.out; omega⟩
          have HT2 : Aside0 ((L ++ [(oneW q).1] ++ (lsP oneW k (oneW q).2).1, (lsP oneW k (oneW q).2).2) = tot) := ⟨by rw [← HT.out, lsP_step _ _ he]; simp⟩
          have HCON := Aside0.mk (word_calls w0 wr g q HR.out.rd HR.out.bel)
          have HX2 : Aside0 ((k : Int) = n - (x + 1)) := ⟨by have := HX.out; omega⟩
          have HW2 : Aside0 (Words (oneW q).2.ws) := ⟨Words.stW HW.out⟩
          rw [he] at hc2
          clear he e0 HT HX
          go_wp2_with fail
          refine HCON.out.mono ?_
          rintro e' w3 ⟨rfl, hr⟩
          have HR3 := Aside0.mk hr
          have HO3 := Aside0.mk (Kd.R_keep HO.out hr.keep (fun k hk => Nat.ne_of_gt (Nat.lt_of_lt_of_le HLT.out hk)))
          have hsz3 : W.heap.size ≤ w3.heap.size := Nat.le_trans HR.out.keep.1 hr.keep.1
          have hlen : L.length ≤ 4294967295 := by have := HL.out; have := HNN.out; omega
          clear hr HO HCON hc2
          go_wp2_with (at_builtin; refine Kd.R_append (Kd.int .u32) (w0 := w3) W.heap.size rfl (.tmp 29) (.tmp 32) 22 43 (.int .u32 0) 4 rfl hu info_W rfl (by decide) (by decide) _ L (nextV q.ws) [.int .u32 (nextV q.ws)] (fun j => W.heap.size ≤ j) (fun _ => False) rfl rfl ?aP ?aQ ?aF ?aO ?aB ?aS ?aL ?_)
          case aP => exact rfl
          case aQ => exact fun _ h => h.elim
          case aF => exact fun k hk => Nat.le_trans hsz3 hk
          case aO => exact HO3.out
          case aB => exact Below.refl _ _
          case aS => exact hsz3
          case aL => omega
          intro v1 w6 ho hb hg hat
          obtain ⟨A6, n6, c6, rfl⟩ : ∃ A n c, v1 = .slice A n c := by
            obtain ⟨A, c, h⟩ := Kd.R_slice ho
            exact ⟨A, _, c, h⟩
          have HO6 := Aside0.mk ho
          have HR6 : Aside0 (Rd w0 W g (stW q) w6) := ⟨rd_low HR3.out HLT.out hsz3 hb (HR.out.keep.trans HR3.out.keep (.inl rfl))⟩
          have HL6 : Aside0 (((L ++ [(nextV q.ws)]).length : Int) ≤ x + 1) := ⟨by have := HL.out; simp; omega⟩
          have hw1 := u32_n hx0 hlt HNN.out.2
          clear ho hb hg hat hlen hsz3 HR
          go_wp2
          go_roundw
          case rel => exact ⟨x + 1, k, A6, n6, c6, L ++ [(nextV q.ws)], (stW q), Int.le_trans hx0 (Int.le_of_lt (Int.lt_succ x)), Int.add_one_le_of_lt hlt, rfl, by go_num, HX2, HW2, HR6, HO6, HT2, HL6⟩
          case measure => first | exact meas hx0 hlt | (rw [hw1]; exact meas hx0 hlt)
        · have e0 : (q.e == 0) = false := by simp [he]
          have HE : Aside0 (tot = (L, q)) := ⟨by rw [← HT.out, lsP_stop _ _ he]; simp⟩
          clear he
          go_wp2
          go_ret
          exact ⟨_, _, _, rfl, by rw [HE.out]; exact HO.out, by rw [HE.out]; exact HR.out⟩
      · have hd : decide (x < n) = false := decide_eq_false hlt
        have hk : k = 0 := by have := HX.out; omega
        subst hk
        have HE : Aside0 (tot = (L, q)) := ⟨by rw [← HT.out]; simp [lsP]⟩
        go_wp2
        go_ret
        exact ⟨_, _, _, rfl, by rw [HE.out]; exact HO.out, by rw [HE.out]; exact HR.out⟩
  · have hd0 : decide (bound < n) = false := decide_eq_false hgt
    have HT : Aside0 (([] ++ (lsP oneW n.toNat q1).1, (lsP oneW n.toNat q1).2) = tot) := ⟨by rw [← HLS.out, if_neg hgt]; rfl⟩
    clear hgt hb HLS
    go_wp2_with fail
    go_loopw [8, 9] (fun v8 v9 wr => ∃ (x : Int) (k : Nat) (Av : Option Addr) (m c : Nat) (L : List Int) (q : St), 0 ≤ x ∧ x ≤ n ∧ v8 = .slice Av m c ∧ v9 = .int .u32 x ∧ Aside0 ((k : Int) = n - x) ∧ Aside0 (Words q.ws) ∧ Aside0 (Rd w0 W g q wr) ∧ Aside0 (Kd.R (Kd.int .u32) 43 wr W.heap.size (fun j => W.heap.size ≤ j) (.slice Av m c) L) ∧ Aside0 ((L ++ (lsP oneW k q).1, (lsP oneW k q).2) = tot) ∧ Aside0 ((L.length : Int) ≤ x)) (fun _ v _ => (n - intOf v).toNat)
    case atStart => exact ⟨0, n.toNat, none, 0, 0, [], q1, Int.le_refl _, HNN.out.1, rfl, rfl, ⟨by have := HNN.out; omega⟩, HQ, HR, ⟨Kd.R_nil _ _ _ _ _⟩, HT, ⟨by simp⟩⟩
    case round =>
      clear HR HQ HT
      obtain ⟨x, k, Av, m, c, L, q, hx0, hx1, rfl, rfl, HX, HW, HR, HO, HT, HL⟩ := hrel
      have hc2 := HR.out.rd.c2
      by_cases hlt : x < n
      · have hd : decide (x < n) = true := decide_eq_true hlt
        by_cases he : q.e = 0
        · have e0 : (q.e == 0) = true := by simp [he]
          obtain ⟨k, rfl⟩ : ∃ j, k = j + 1 := ⟨k - 1, by have := HX.out; omega⟩
          have HT2 : Aside0 ((L ++ [(oneW q).1] ++ (lsP oneW k (oneW q).2).1, (lsP oneW k (oneW q).2).2) = tot) := ⟨by rw [← HT.out, lsP_step _ _ he]; simp⟩
          have HCON := Aside0.mk (word_calls w0 wr g q HR.out.rd HR.out.bel)
          have HX2 : Aside0 ((k : Int) = n - (x + 1)) := ⟨by have := HX.out; omega⟩
          have HW2 : Aside0 (Words (oneW q).2.ws) := ⟨Words.stW HW.out⟩
          rw [he] at hc2
          clear he e0 HT HX
          go_wp2_with fail
          refine HCON.out.mono ?_
          rintro e' w3 ⟨rfl, hr⟩
          have HR3 := Aside0.mk hr
          have HO3 := Aside0.mk (Kd.R_keep HO.out hr.keep (fun k hk => Nat.ne_of_gt (Nat.lt_of_lt_of_le HLT.out hk)))
          have hsz3 : W.heap.size ≤ w3.heap.size := Nat.le_trans HR.out.keep.1 hr.keep.1
          have hlen : L.length ≤ 4294967295 := by have := HL.out; have := HNN.out; omega
          clear hr HO HCON hc2
          go_wp2_with (at_builtin; refine Kd.R_append (Kd.int .u32) (w0 := w3) W.heap.size rfl (.tmp 29) (.tmp 32) 22 43 (.int .u32 0) 4 rfl hu info_W rfl (by decide) (by decide) _ L (nextV q.ws) [.int .u32 (nextV q.ws)] (fun j => W.heap.size ≤ j) (fun _ => False) rfl rfl ?aP ?aQ ?aF ?aO ?aB ?aS ?aL ?_)
          case aP => exact rfl
          case aQ => exact fun _ h => h.elim
          case aF => exact fun k hk => Nat.le_trans hsz3 hk
          case aO => exact HO3.out
          case aB => exact Below.refl _ _
          case aS => exact hsz3
          case aL => omega
          intro v1 w6 ho hb hg hat
          obtain ⟨A6, n6, c6, rfl⟩ : ∃ A n c, v1 = .slice A n c := by
            obtain ⟨A, c, h⟩ := Kd.R_slice ho
            exact ⟨A, _, c, h⟩
          have HO6 := Aside0.mk ho
          have HR6 : Aside0 (Rd w0 W g (stW q) w6) := ⟨rd_low HR3.out HLT.out hsz3 hb (HR.out.keep.trans HR3.out.keep (.inl rfl))⟩
          have HL6 : Aside0 (((L ++ [(nextV q.ws)]).length : Int) ≤ x + 1) := ⟨by have := HL.out; simp; omega⟩
          have hw1 := u32_n hx0 hlt HNN.out.2
          clear ho hb hg hat hlen hsz3 HR
          go_wp2
          go_roundw
          case rel => exact ⟨x + 1, k, A6, n6, c6, L ++ [(nextV q.ws)], (stW q), Int.le_trans hx0 (Int.le_of_lt (Int.lt_succ x)), Int.add_one_le_of_lt hlt, rfl, by go_num, HX2, HW2, HR6, HO6, HT2, HL6⟩
          case measure => first | exact meas hx0 hlt | (rw [hw1]; exact meas hx0 hlt)
        · have e0 : (q.e == 0) = false := by simp [he]
          have HE : Aside0 (tot = (L, q)) := ⟨by rw [← HT.out, lsP_stop _ _ he]; simp⟩
          clear he
          go_wp2
          go_ret
          exact ⟨_, _, _, rfl, by rw [HE.out]; exact HO.out, by rw [HE.out]; exact HR.out⟩
      · have hd : decide (x < n) = false := decide_eq_false hlt
        have hk : k = 0 := by have := HX.out; omega
        subst hk
        have HE : Aside0 (tot = (L, q)) := ⟨by rw [← HT.out]; simp [lsP]⟩
        go_wp2
        go_ret
        exact ⟨_, _, _, rfl, by rw [HE.out]; exact HO.out, by rw [HE.out]; exact HR.out⟩
/-! ### requests -/
structure Req where
  op : Int
  port : Int
  addr : Int
  data : List Int
def k90 : Kd Req := Kd.iso (Kd.pair (Kd.int .i64) (Kd.pair (Kd.int .i64) (Kd.pair (Kd.int .u64) (Kd.slice 43 (Kd.int .u32))))) (fun x : Req => (x.op, x.port, x.addr, x.data))
def reqP (q : St) : Req × St := (⟨nextV q.ws, nextV (stW q).ws, nextV (stW (stW (stW q))).ws * 4294967296 + nextV (stW (stW q)).ws, (lsR oneW 64 (stW (stW (stW (stW q))))).1⟩, (lsR oneW 64 (stW (stW (stW (stW q))))).2)
theorem k90_mkM {w : World} {base : Nat} {ok : Nat → Prop} {x : Req} {v : Value} (h : Kd.R (Kd.int .u32) 43 w base ok v x.data) : k90.M w base ok x [.int .i64 x.op, .int .i64 x.port, .int .u64 x.addr, v] :=
  ⟨[.int .i64 x.op], [.int .i64 x.port, .int .u64 x.addr, v], rfl, rfl, [.int .i64 x.port], [.int .u64 x.addr, v], rfl, rfl, [.int .u64 x.addr], [v], rfl, rfl, v, rfl, h⟩
theorem Rd.more {w0 W W1 w' : World} {g : Nat} {q q' : St} (h : Rd w0 W g q W1) (h' : Rd w0 W1 g q' w') : Rd w0 W g q' w' := ⟨h'.rd, h'.bel, h.keep.trans h'.keep (.inl rfl)⟩
theorem Rd.to {w0 W W1 w' : World} {g : Nat} {q : St} (h : Rd w0 W g q W1) (hb : Below W1.heap.size W1 w') : Rd w0 W g q w' := ⟨h.rd.to hb, h.bel.trans (hb.mono h.bel.size), ⟨Nat.le_trans h.keep.1 hb.size, fun k hk q1 q2 => (hb.block k (Nat.lt_of_lt_of_le hk h.keep.1)).trans (h.keep.2 k hk q1 q2)⟩⟩
/-- A store into a block that is new. -/
theorem Rd.far {w0 W W1 : World} {g b : Nat} {q : St} (h : Rd w0 W g q W1) (hl : g < b) (hW : W.heap.size ≤ b) (i : Nat) (v : Value) : Rd w0 W g q (W1.setCell ⟨b, i, none⟩ v) := by
  refine ⟨?_, h.bel.setCell (Nat.le_trans h.rd.ge (Nat.le_of_lt hl)) _, ⟨by simpa using h.keep.1, fun k hk q1 q2 => (Below.heap_setCell W1 ⟨b, i, none⟩ v k (Nat.ne_of_lt (Nat.lt_of_lt_of_le hk hW))).trans (h.keep.2 k hk q1 q2)⟩⟩
  obtain ⟨A, c, hg, r⟩ := h.rd
  exact ⟨A, c, (Below.heap_setCell W1 ⟨b, i, none⟩ v g (Nat.ne_of_lt hl)).trans hg, r⟩
theorem put4 {w : World} {g T : Nat} {a b c d : Value} (h : w.heap[g]? = some (.cells #[a, b, c, d] T (0, 0))) (a' b' c' d' : Value) :
    ((((w.setCell ⟨g, 0, none⟩ a').setCell ⟨g, 1, none⟩ b').setCell ⟨g, 2, none⟩ c').setCell ⟨g, 3, none⟩ d').heap[g]? = some (.cells #[a', b', c', d'] T (0, 0)) :=
  blk_put (blk_put (blk_put (blk_put h 0 a' rfl) 1 b' rfl) 2 c' rfl) 3 d' rfl
theorem Rd.far4 {w0 W W1 : World} {g b : Nat} {q : St} (h : Rd w0 W g q W1) (hl : g < b) (hW : W.heap.size ≤ b) (v0 v1 v2 v3 : Value) : Rd w0 W g q ((((W1.setCell ⟨b, 0, none⟩ v0).setCell ⟨b, 1, none⟩ v1).setCell ⟨b, 2, none⟩ v2).setCell ⟨b, 3, none⟩ v3) :=
  (((h.far hl hW 0 v0).far hl hW 1 v1).far hl hW 2 v2).far hl hW 3 v3
/-- A step of the reader's: what comes, what it is then. -/
def Stp (w0 : World) (g f : Nat) (q : St) (v : Value) (q' : St) : Prop := ∀ W X : World, Rd w0 W g q X → Calls Try.prog f #[.pointer (some ⟨g, 0, none⟩)] X fun e w' => e = .returned v ∧ Rd w0 W g q' w' ∧ KeepBut X w' g none
theorem stp_word (w0 : World) (g : Nat) (q : St) : Stp w0 g 76 q (.int .u32 (nextV q.ws)) (stW q) := fun W X h => (word_calls w0 X g q h.rd h.bel).mono (fun e w' r => ⟨r.1, h.more r.2, r.2.keep⟩)
theorem stp_num (w0 : World) (g : Nat) (q : St) (hw : Words q.ws) : Stp w0 g 55 q (.int .i64 (nextV q.ws)) (stW q) := fun W X h => (number_calls w0 X g q hw h.rd h.bel).mono (fun e w' r => ⟨r.1, h.more r.2, r.2.keep⟩)
theorem wraps_u64 (n : Int) (h0 : 0 ≤ n) (h1 : n < 2 ^ 64) : IntKind.u64.wrap n = n := by
  have e : (2 : Int) ^ 64 = 18446744073709551616 := by decide
  rw [e] at h1
  show n % 18446744073709551616 = n
  omega
theorem or_join {h l : Int} (hh : 0 ≤ h ∧ h ≤ 4294967295) (hl : 0 ≤ l ∧ l ≤ 4294967295) : bits .or .u64 (IntKind.u64.wrap (IntKind.u64.wrap h * 4294967296)) l = h * 4294967296 + l := by
  have e : (2 : Int) ^ 64 = 18446744073709551616 := by decide
  have e2 : (2 : Int) ^ 32 = 4294967296 := by decide
  rw [wraps_u64 h hh.1 (by rw [e]; omega), wraps_u64 (h * 4294967296) (by omega) (by rw [e]; omega)]
  exact bits_join .u64 64 (by decide) wraps_u64 32 _ _ (by omega) (by rw [e2]; omega) (by rw [e]; omega) hl.1 (by rw [e2]; omega) (by rw [e]; omega)
theorem R_far4 {w : World} {base g : Nat} {v : Value} {xs : List Int} {B : Nat} (h : Kd.R (Kd.int .u32) 43 w base (fun j => B ≤ j) v xs) (hg : g < B) (v0 v1 v2 v3 : Value) : Kd.R (Kd.int .u32) 43 ((((w.setCell ⟨g, 0, none⟩ v0).setCell ⟨g, 1, none⟩ v1).setCell ⟨g, 2, none⟩ v2).setCell ⟨g, 3, none⟩ v3) base (fun j => B ≤ j) v xs :=
  Kd.R_far (Kd.R_far (Kd.R_far (Kd.R_far h (fun j hj => Nat.ne_of_gt (Nat.lt_of_lt_of_le hg hj)) _) (fun j hj => Nat.ne_of_gt (Nat.lt_of_lt_of_le hg hj)) _) (fun j hj => Nat.ne_of_gt (Nat.lt_of_lt_of_le hg hj)) _) (fun j hj => Nat.ne_of_gt (Nat.lt_of_lt_of_le hg hj)) _
theorem high_low {h l : Int} (h0 : 0 ≤ h ∧ h ≤ 4294967295) (l0 : 0 ≤ l ∧ l ≤ 4294967295) : 0 ≤ h * 4294967296 + l ∧ h * 4294967296 + l < 18446744073709551616 := by omega
/-- A request came. -/
structure GotReq (w0 W : World) (g : Nat) (q : St) (e : Ending) (w' : World) : Prop where
  all : ∃ A n c, e = .returned (.agg #[.int .i64 (reqP q).1.op, .int .i64 (reqP q).1.port, .int .u64 (reqP q).1.addr, .slice A n c]) ∧ Kd.R (Kd.int .u32) 43 w' W.heap.size (fun j => W.heap.size ≤ j) (.slice A n c) (reqP q).1.data
  rd : Rd w0 W g (reqP q).2 w'
set_option maxRecDepth 20000 in
set_option maxHeartbeats 4000000 in
theorem request_calls (w0 W : World) (g : Nat) (q : St) (hw : Words q.ws) (h : IsRd w0 W g q) (hB : Below w0.heap.size w0 W) :
    Calls Try.prog 53 #[.pointer (some ⟨g, 0, none⟩)] W fun e w' => GotReq w0 W g q e w' := by
  have S0 := Aside0.mk (stp_num w0 g q hw)
  have S1 := Aside0.mk (stp_num w0 g (stW q) (Words.stW hw))
  have S2 := Aside0.mk (stp_word w0 g (stW (stW q)))
  have S3 := Aside0.mk (stp_word w0 g (stW (stW (stW q))))
  have S4 := Aside0.mk (fun (W X : World) (h : Rd w0 W g (stW (stW (stW (stW q)))) X) => list_u32 w0 X g (stW (stW (stW (stW q)))) 64 (by decide) (Words.stW (Words.stW (Words.stW (Words.stW hw)))) h.rd h.bel)
  have HQ : Aside0 (reqP q = (⟨nextV q.ws, nextV (stW q).ws, nextV (stW (stW (stW q))).ws * 4294967296 + nextV (stW (stW q)).ws, (lsR oneW 64 (stW (stW (stW (stW q))))).1⟩, (lsR oneW 64 (stW (stW (stW (stW q))))).2)) := ⟨rfl⟩
  have hh2 := (Words.stW (Words.stW hw)).head
  have hh3 := (Words.stW (Words.stW (Words.stW hw))).head
  have HLT := Aside0.mk h.lt
  have hb0 := below_alloc (Below.refl _ W) (.cells #[.int .i64 0, .int .i64 0, .int .u64 0, .slice none 0 0] 90)
  have HR0 : Aside0 (Rd w0 W g q (W.alloc (.cells #[.int .i64 0, .int .i64 0, .int .u64 0, .slice none 0 0] 90))) := ⟨⟨h.to hb0, hB.trans (hb0.mono hB.size), KeepBut.of_below hb0 g none⟩⟩
  have HG0 := Aside0.mk (blk_new W (.cells #[.int .i64 0, .int .i64 0, .int .u64 0, .slice none 0 0] 90))
  clear h hB hb0 hw
  generalize nextV q.ws = a0 at *
  generalize lsR oneW 64 (stW (stW (stW (stW q)))) = l5 at *
  generalize nextV (stW (stW (stW q))).ws = a3 at *
  generalize nextV (stW (stW q)).ws = a2 at *
  generalize nextV (stW q).ws = a1 at *
  generalize stW (stW (stW (stW q))) = q4 at *
  generalize stW (stW (stW q)) = q3 at *
  generalize stW (stW q) = q2 at *
  generalize stW q = q1 at *
  have HAD := Aside0.mk (high_low hh3 hh2)
  have HH := Aside0.mk (And.intro hh2 hh3)
  clear hh2 hh3
  go_enter Try.func53, Try.ntmps53
  go_wp2_with fail
  refine (S0.out W _ HR0.out).mono ?_
  rintro e w1 ⟨rfl, h1, hk⟩
  have HR1 := Aside0.mk h1
  have HG1 := Aside0.mk (hk.blk HG0.out (Nat.ne_of_gt HLT.out) (by simp))
  clear h1 hk HR0 HG0 S0
  go_wp2_with fail
  refine (S1.out W _ HR1.out).mono ?_
  rintro e w2 ⟨rfl, h1, hk⟩
  have HR2 := Aside0.mk h1
  have HG2 := Aside0.mk (hk.blk HG1.out (Nat.ne_of_gt HLT.out) (by simp))
  have hb3 := below_alloc (Below.refl _ w2) (.cells #[.int .i64 a0, .int .i64 a1, .int .u64 0, .slice none 0 0] 90)
  have HR3 := Aside0.mk (h1.to hb3)
  have HG3 := Aside0.mk (blk_below HG2.out hb3)
  have HK3 := Aside0.mk (blk_new w2 (.cells #[.int .i64 a0, .int .i64 a1, .int .u64 0, .slice none 0 0] 90))
  have HL2 : Aside0 (g < w2.heap.size) := ⟨h1.rd.lt⟩
  have HB2 : Aside0 (W.heap.size < w2.heap.size) := ⟨blk_lt HG2.out⟩
  clear h1 hk HR1 HG1 S1 HG2 hb3
  go_wp2_with fail
  refine (S2.out W _ HR3.out).mono ?_
  rintro e w4 ⟨rfl, h1, hk⟩
  have HR4 := Aside0.mk h1
  have HG4 := Aside0.mk (hk.blk HG3.out (Nat.ne_of_gt HLT.out) (by simp))
  have HK4 := Aside0.mk (hk.blk HK3.out (Nat.ne_of_gt HL2.out) (by simp))
  clear h1 hk HR3 HG3 HK3 S2
  have hcv : IntKind.u64.wrap a2 = a2 := u64_of HH.out.1
  go_wp2_with fail
  clear hcv
  refine (S3.out W _ HR4.out).mono ?_
  rintro e w5 ⟨rfl, h1, hk⟩
  have HR5 := Aside0.mk h1
  have HG5 := Aside0.mk (hk.blk HG4.out (Nat.ne_of_gt HLT.out) (by simp))
  have HK5 := Aside0.mk (hk.blk HK4.out (Nat.ne_of_gt HL2.out) (by simp))
  clear h1 hk HR4 HG4 HK4 S3
  generalize w2.heap.size = b at *
  have hk2 : w5.cell? ⟨b, 2, none⟩ = some (.int .u64 0) := (blk_cell HK5.out 2).trans rfl
  have hf2 := blk_frozen HK5.out 2
  have hor := or_join HH.out.2 HH.out.1
  have HK6 := Aside0.mk ((blk_set HK5.out 2 (.int .u64 (a3 * 4294967296 + a2))).trans rfl)
  have HR6 := Aside0.mk (HR5.out.far HL2.out (Nat.le_of_lt HB2.out) 2 (.int .u64 (a3 * 4294967296 + a2)))
  have HG6 := Aside0.mk ((Below.heap_setCell w5 ⟨b, 2, none⟩ (.int .u64 (a3 * 4294967296 + a2)) _ (Nat.ne_of_lt HB2.out)).trans HG5.out)
  have HS6 : Aside0 (b < (w5.setCell ⟨b, 2, none⟩ (.int .u64 (a3 * 4294967296 + a2))).heap.size) := ⟨blk_lt HK6.out⟩
  generalize had : a3 * 4294967296 + a2 = ad at *
  clear had HR5 HG5 HK5 HAD HH
  go_wp2_with fail
  clear hor hk2 hf2
  refine (S4.out W _ HR6.out).mono ?_
  rintro e w7 ⟨A, m, c, rfl, ho, hr⟩
  have HR7 := Aside0.mk (HR6.out.more hr)
  have HG7 := Aside0.mk (hr.keep.blk HG6.out (Nat.ne_of_gt HLT.out) (by simp))
  have HK7 := Aside0.mk (hr.keep.blk HK6.out (Nat.ne_of_gt HL2.out) (by simp))
  have HO7 := Aside0.mk (Kd.R_lower (Kd.R_mono ho (fun j hj => (Nat.lt_of_lt_of_le HS6.out hj : b + 1 ≤ j))) (Nat.le_trans (Nat.le_of_lt HB2.out) (Nat.le_of_lt HS6.out)))
  clear ho hr HR6 HG6 HK6 S4 HS6
  have hk3 : w7.cell? ⟨b, 3, none⟩ = some (.slice none 0 0) := (blk_cell HK7.out 3).trans rfl
  have hf3 := blk_frozen HK7.out 3
  have HK8 := Aside0.mk ((blk_set HK7.out 3 (.slice A m c)).trans rfl)
  have HG8 := Aside0.mk ((Below.heap_setCell w7 ⟨b, 3, none⟩ (.slice A m c) _ (Nat.ne_of_lt HB2.out)).trans HG7.out)
  have HR8 := Aside0.mk (HR7.out.far HL2.out (Nat.le_of_lt HB2.out) 3 (.slice A m c))
  have HO8 : Aside0 (Kd.R (Kd.int .u32) 43 (w7.setCell ⟨b, 3, none⟩ (.slice A m c)) W.heap.size (fun j => b + 1 ≤ j) (.slice A m c) l5.1) := ⟨Kd.R_far HO7.out (fun j hj => Nat.ne_of_gt hj) _⟩
  have hl0 := (blk_cell HK8.out 0).trans rfl
  have hl1 := (blk_cell HK8.out 1).trans rfl
  have hl2 := (blk_cell HK8.out 2).trans rfl
  have hl3 := (blk_cell HK8.out 3).trans rfl
  have hy0 := (blk_cell HG8.out 0).trans rfl
  have hy1 := (blk_cell HG8.out 1).trans rfl
  have hy2 := (blk_cell HG8.out 2).trans rfl
  have hy3 := (blk_cell HG8.out 3).trans rfl
  have hyf0 := blk_frozen HG8.out 0
  have hyf1 := blk_frozen HG8.out 1
  have hyf2 := blk_frozen HG8.out 2
  have hyf3 := blk_frozen HG8.out 3
  clear HR7 HG7 HK7 HO7
  go_wp2
  have hfin := put4 HG8.out (.int .i64 a0) (.int .i64 a1) (.int .u64 ad) (.slice A m c)
  have HR9 := Aside0.mk (HR8.out.far4 HLT.out (Nat.le_refl _) (.int .i64 a0) (.int .i64 a1) (.int .u64 ad) (.slice A m c))
  have HO9 := Aside0.mk (R_far4 HO8.out (Nat.lt_succ_of_lt HB2.out) (.int .i64 a0) (.int .i64 a1) (.int .u64 ad) (.slice A m c))
  generalize hWF : ((((w7.setCell ⟨b, 3, none⟩ (.slice A m c)).setCell ⟨W.heap.size, 0, none⟩ _).setCell _ _).setCell _ _).setCell _ _ = wz at *
  have hz0 := (blk_cell hfin 0).trans rfl
  have hz1 := (blk_cell hfin 1).trans rfl
  have hz2 := (blk_cell hfin 2).trans rfl
  have hz3 := (blk_cell hfin 3).trans rfl
  (try simp only [Exit.inBlock, Exit.then])
  refine bodyPost_ret (by simp [results, Try.results53, go_sem, hz0, hz1, hz2, hz3]; try rfl) rfl ?_
  exact ⟨⟨A, m, c, by rw [HQ.out], by rw [HQ.out]; exact Kd.R_mono HO9.out (fun j hj => Nat.le_of_lt (Nat.lt_of_lt_of_le HB2.out (Nat.le_of_succ_le hj)))⟩, by rw [HQ.out]; exact HR9.out⟩
theorem info_Q : (Try.prog.info? 90).map (fun i => (i.zero, i.size, i.bytes)) = some (some (.agg #[.int .i64 0, .int .i64 0, .int .u64 0, .slice none 0 0]), 4, 48) := by kernel_rfl
theorem info_L : (Try.prog.info? 87).map (fun i => (i.zero, i.size, i.bytes)) = some (some (.slice none 0 0), 1, 24) := by kernel_rfl
theorem oneW_words {q : St} (h : Words q.ws) : Words (oneW q).2.ws := Words.stW h
theorem reqP_words {q : St} (h : Words q.ws) : Words (reqP q).2.ws := lsR_words (fun _ => oneW_words) 64 _ (Words.stW (Words.stW (Words.stW (Words.stW h))))
def lqP (q : St) : List Req × St := lsR reqP 64 q
theorem lqP_words {q : St} (h : Words q.ws) : Words (lqP q).2.ws := lsR_words (fun _ => reqP_words) 64 _ h
set_option maxRecDepth 20000 in
set_option maxHeartbeats 4000000 in
theorem list_req (w0 W : World) (g : Nat) (q : St) (bound : Int) (hb : 0 ≤ bound ∧ bound ≤ 4294967295) (hw : Words q.ws) (h : IsRd w0 W g q) (hB : Below w0.heap.size w0 W) :
    Calls Try.prog 52 #[.pointer (some ⟨g, 0, none⟩), .int .u32 bound, .func (.func 53) #[.pointer (some ⟨g, 0, none⟩)] #[]] W fun e w' => ∃ A n c, e = .returned (.slice A n c) ∧ Kd.R k90 90 w' W.heap.size (fun j => W.heap.size ≤ j) (.slice A n c) (lsR reqP bound q).1 ∧ Rd w0 W g (lsR reqP bound q).2 w' := by
  have HN := Aside0.mk (word_calls w0 W g q h hB)
  have HLT := Aside0.mk h.lt
  obtain ⟨n, hn⟩ : ∃ n, nextV q.ws = n := ⟨_, rfl⟩
  have hnw := hw.head
  have HQ := Aside0.mk (Words.stW hw)
  obtain ⟨tot, htot⟩ : ∃ t, lsR reqP bound q = t := ⟨_, rfl⟩
  have HLS : Aside0 (lsP reqP n.toNat (if bound < n then stF (stW q) 7 else stW q) = tot) := ⟨by rw [← htot]; unfold lsR; rw [hn]⟩
  rw [hn] at HN hnw
  rw [htot]
  clear htot
  generalize stW q = q1 at *
  have HNN := Aside0.mk hnw
  clear h hB hw hn hnw
  have hu := Try.underlying87
  go_enter Try.func52, Try.ntmps52
  go_wp2_with fail
  refine HN.out.mono ?_
  rintro e' w1 ⟨rfl, hr⟩
  have HR := Aside0.mk hr
  clear hr HN
  by_cases hgt : bound < n
  · have hd0 : decide (bound < n) = true := decide_eq_true hgt
    have HT : Aside0 (([] ++ (lsP reqP n.toNat (stF q1 7)).1, (lsP reqP n.toNat (stF q1 7)).2) = tot) := ⟨by rw [← HLS.out, if_pos hgt]; rfl⟩
    clear hgt hb HLS
    go_wp2_with fail
    refine (fault_calls w0 w1 g q1 7 HR.out.rd HR.out.bel).mono ?_
    rintro e' w2 ⟨rfl, hr⟩
    have HR : Aside0 (Rd w0 W g (stF q1 7) w2) := ⟨⟨hr.rd, hr.bel, HR.out.keep.trans hr.keep (.inl rfl)⟩⟩
    have HQ := Aside0.mk (Words.stF HQ.out 7)
    clear hr
    go_wp2_with fail
    go_loopw [8, 9] (fun v8 v9 wr => ∃ (x : Int) (k : Nat) (Av : Option Addr) (m c : Nat) (L : List Req) (q : St), 0 ≤ x ∧ x ≤ n ∧ v8 = .slice Av m c ∧ v9 = .int .u32 x ∧ Aside0 ((k : Int) = n - x) ∧ Aside0 (Words q.ws) ∧ Aside0 (Rd w0 W g q wr) ∧ Aside0 (Kd.R k90 90 wr W.heap.size (fun j => W.heap.size ≤ j) (.slice Av m c) L) ∧ Aside0 ((L ++ (lsP reqP k q).1, (lsP reqP k q).2) = tot) ∧ Aside0 ((L.length : Int) ≤ x)) (fun _ v _ => (n - intOf v).toNat)
    case atStart => exact ⟨0, n.toNat, none, 0, 0, [], (stF q1 7), Int.le_refl _, HNN.out.1, rfl, rfl, ⟨by have := HNN.out; omega⟩, HQ, HR, ⟨Kd.R_nil _ _ _ _ _⟩, HT, ⟨by simp⟩⟩
    case round =>
      clear HR HQ HT
      obtain ⟨x, k, Av, m, c, L, q, hx0, hx1, rfl, rfl, HX, HW, HR, HO, HT, HL⟩ := hrel
      have hc2 := HR.out.rd.c2
      by_cases hlt : x < n
      · have hd : decide (x < n) = true := decide_eq_true hlt
        by_cases he : q.e = 0
        · have e0 : (q.e == 0) = true := by simp [he]
          obtain ⟨k, rfl⟩ : ∃ j, k = j + 1 := ⟨k - 1, by have := HX.out; omega⟩
          have HT2 : Aside0 ((L ++ [(reqP q).1] ++ (lsP reqP k (reqP q).2).1, (lsP reqP k (reqP q).2).2) = tot) := ⟨by rw [← HT.out, lsP_step _ _ he]; simp⟩
          have HCON := Aside0.mk (request_calls w0 wr g q HW.out HR.out.rd HR.out.bel)
          have HX2 : Aside0 ((k : Int) = n - (x + 1)) := ⟨by have := HX.out; omega⟩
          have HW2 : Aside0 (Words (reqP q).2.ws) := ⟨reqP_words HW.out⟩
          rw [he] at hc2
          clear he e0 HT HX
          go_wp2_with fail
          refine HCON.out.mono ?_
          rintro e' w3 ⟨⟨Ai, ni, ci, rfl, hoi⟩, hr⟩
          have HR3 := Aside0.mk hr
          have HO3 := Aside0.mk (Kd.R_keep HO.out hr.keep (fun k hk => Nat.ne_of_gt (Nat.lt_of_lt_of_le HLT.out hk)))
          have hsz3 : W.heap.size ≤ w3.heap.size := Nat.le_trans HR.out.keep.1 hr.keep.1
          have hlen : L.length ≤ 4294967295 := by have := HL.out; have := HNN.out; omega
          have hown : ∀ k, wr.heap.size ≤ k → W.heap.size ≤ k ∧ some k ≠ (Value.slice Av m c).ownBlock := fun k hk => ⟨Nat.le_trans HR.out.keep.1 hk, fun e => Nat.not_le.mpr ((Kd.R_bound HO.out).1 k e.symm).2.2.1 hk⟩
          have hkp := HR.out.keep.1
          clear hr HO HCON hc2
          go_wp2_with (at_builtin; refine Kd.R_append k90 (w0 := w3) W.heap.size rfl (.tmp 29) (.tmp 32) 87 90 (.agg #[.int .i64 0, .int .i64 0, .int .u64 0, .slice none 0 0]) 48 rfl hu info_Q rfl (by decide) (by decide) _ L (reqP q).1 [.int .i64 (reqP q).1.op, .int .i64 (reqP q).1.port, .int .u64 (reqP q).1.addr, .slice Ai ni ci] (fun j => W.heap.size ≤ j) (fun j => wr.heap.size ≤ j) rfl rfl ?aP ?aQ ?aF ?aO ?aB ?aS ?aL ?_)
          case aP => exact k90.M_lower hkp (k90_mkM hoi)
          case aQ => exact hown
          case aF => exact fun k hk => Nat.le_trans hsz3 hk
          case aO => exact HO3.out
          case aB => exact Below.refl _ _
          case aS => exact hsz3
          case aL => omega
          intro v1 w6 ho hb hg hat
          obtain ⟨A6, n6, c6, rfl⟩ : ∃ A n c, v1 = .slice A n c := by
            obtain ⟨A, c, h⟩ := Kd.R_slice ho
            exact ⟨A, _, c, h⟩
          have HO6 := Aside0.mk ho
          have HR6 : Aside0 (Rd w0 W g (reqP q).2 w6) := ⟨rd_low HR3.out HLT.out hsz3 hb (HR.out.keep.trans HR3.out.keep (.inl rfl))⟩
          have HL6 : Aside0 (((L ++ [(reqP q).1]).length : Int) ≤ x + 1) := ⟨by have := HL.out; simp; omega⟩
          have hw1 := u32_n hx0 hlt HNN.out.2
          clear ho hb hg hat hlen hsz3 HR
          go_wp2
          go_roundw
          case rel => exact ⟨x + 1, k, A6, n6, c6, L ++ [(reqP q).1], (reqP q).2, Int.le_trans hx0 (Int.le_of_lt (Int.lt_succ x)), Int.add_one_le_of_lt hlt, rfl, by go_num, HX2, HW2, HR6, HO6, HT2, HL6⟩
          case measure => first | exact meas hx0 hlt | (rw [hw1]; exact meas hx0 hlt)
        · have e0 : (q.e == 0) = false := by simp [he]
          have HE : Aside0 (tot = (L, q)) := ⟨by rw [← HT.out, lsP_stop _ _ he]; simp⟩
          clear he
          go_wp2
          go_ret
          exact ⟨_, _, _, rfl, by rw [HE.out]; exact HO.out, by rw [HE.out]; exact HR.out⟩
      · have hd : decide (x < n) = false := decide_eq_false hlt
        have hk : k = 0 := by have := HX.out; omega
        subst hk
        have HE : Aside0 (tot = (L, q)) := ⟨by rw [← HT.out]; simp [lsP]⟩
        go_wp2
        go_ret
        exact ⟨_, _, _, rfl, by rw [HE.out]; exact HO.out, by rw [HE.out]; exact HR.out⟩
  · have hd0 : decide (bound < n) = false := decide_eq_false hgt
    have HT : Aside0 (([] ++ (lsP reqP n.toNat q1).1, (lsP reqP n.toNat q1).2) = tot) := ⟨by rw [← HLS.out, if_neg hgt]; rfl⟩
    clear hgt hb HLS
    go_wp2_with fail
    go_loopw [8, 9] (fun v8 v9 wr => ∃ (x : Int) (k : Nat) (Av : Option Addr) (m c : Nat) (L : List Req) (q : St), 0 ≤ x ∧ x ≤ n ∧ v8 = .slice Av m c ∧ v9 = .int .u32 x ∧ Aside0 ((k : Int) = n - x) ∧ Aside0 (Words q.ws) ∧ Aside0 (Rd w0 W g q wr) ∧ Aside0 (Kd.R k90 90 wr W.heap.size (fun j => W.heap.size ≤ j) (.slice Av m c) L) ∧ Aside0 ((L ++ (lsP reqP k q).1, (lsP reqP k q).2) = tot) ∧ Aside0 ((L.length : Int) ≤ x)) (fun _ v _ => (n - intOf v).toNat)
    case atStart => exact ⟨0, n.toNat, none, 0, 0, [], q1, Int.le_refl _, HNN.out.1, rfl, rfl, ⟨by have := HNN.out; omega⟩, HQ, HR, ⟨Kd.R_nil _ _ _ _ _⟩, HT, ⟨by simp⟩⟩
    case round =>
      clear HR HQ HT
      obtain ⟨x, k, Av, m, c, L, q, hx0, hx1, rfl, rfl, HX, HW, HR, HO, HT, HL⟩ := hrel
      have hc2 := HR.out.rd.c2
      by_cases hlt : x < n
      · have hd : decide (x < n) = true := decide_eq_true hlt
        by_cases he : q.e = 0
        · have e0 : (q.e == 0) = true := by simp [he]
          obtain ⟨k, rfl⟩ : ∃ j, k = j + 1 := ⟨k - 1, by have := HX.out; omega⟩
          have HT2 : Aside0 ((L ++ [(reqP q).1] ++ (lsP reqP k (reqP q).2).1, (lsP reqP k (reqP q).2).2) = tot) := ⟨by rw [← HT.out, lsP_step _ _ he]; simp⟩
          have HCON := Aside0.mk (request_calls w0 wr g q HW.out HR.out.rd HR.out.bel)
          have HX2 : Aside0 ((k : Int) = n - (x + 1)) := ⟨by have := HX.out; omega⟩
          have HW2 : Aside0 (Words (reqP q).2.ws) := ⟨reqP_words HW.out⟩
          rw [he] at hc2
          clear he e0 HT HX
          go_wp2_with fail
          refine HCON.out.mono ?_
          rintro e' w3 ⟨⟨Ai, ni, ci, rfl, hoi⟩, hr⟩
          have HR3 := Aside0.mk hr
          have HO3 := Aside0.mk (Kd.R_keep HO.out hr.keep (fun k hk => Nat.ne_of_gt (Nat.lt_of_lt_of_le HLT.out hk)))
          have hsz3 : W.heap.size ≤ w3.heap.size := Nat.le_trans HR.out.keep.1 hr.keep.1
          have hlen : L.length ≤ 4294967295 := by have := HL.out; have := HNN.out; omega
          have hown : ∀ k, wr.heap.size ≤ k → W.heap.size ≤ k ∧ some k ≠ (Value.slice Av m c).ownBlock := fun k hk => ⟨Nat.le_trans HR.out.keep.1 hk, fun e => Nat.not_le.mpr ((Kd.R_bound HO.out).1 k e.symm).2.2.1 hk⟩
          have hkp := HR.out.keep.1
          clear hr HO HCON hc2
          go_wp2_with (at_builtin; refine Kd.R_append k90 (w0 := w3) W.heap.size rfl (.tmp 29) (.tmp 32) 87 90 (.agg #[.int .i64 0, .int .i64 0, .int .u64 0, .slice none 0 0]) 48 rfl hu info_Q rfl (by decide) (by decide) _ L (reqP q).1 [.int .i64 (reqP q).1.op, .int .i64 (reqP q).1.port, .int .u64 (reqP q).1.addr, .slice Ai ni ci] (fun j => W.heap.size ≤ j) (fun j => wr.heap.size ≤ j) rfl rfl ?aP ?aQ ?aF ?aO ?aB ?aS ?aL ?_)
          case aP => exact k90.M_lower hkp (k90_mkM hoi)
          case aQ => exact hown
          case aF => exact fun k hk => Nat.le_trans hsz3 hk
          case aO => exact HO3.out
          case aB => exact Below.refl _ _
          case aS => exact hsz3
          case aL => omega
          intro v1 w6 ho hb hg hat
          obtain ⟨A6, n6, c6, rfl⟩ : ∃ A n c, v1 = .slice A n c := by
            obtain ⟨A, c, h⟩ := Kd.R_slice ho
            exact ⟨A, _, c, h⟩
          have HO6 := Aside0.mk ho
          have HR6 : Aside0 (Rd w0 W g (reqP q).2 w6) := ⟨rd_low HR3.out HLT.out hsz3 hb (HR.out.keep.trans HR3.out.keep (.inl rfl))⟩
          have HL6 : Aside0 (((L ++ [(reqP q).1]).length : Int) ≤ x + 1) := ⟨by have := HL.out; simp; omega⟩
          have hw1 := u32_n hx0 hlt HNN.out.2
          clear ho hb hg hat hlen hsz3 HR
          go_wp2
          go_roundw
          case rel => exact ⟨x + 1, k, A6, n6, c6, L ++ [(reqP q).1], (reqP q).2, Int.le_trans hx0 (Int.le_of_lt (Int.lt_succ x)), Int.add_one_le_of_lt hlt, rfl, by go_num, HX2, HW2, HR6, HO6, HT2, HL6⟩
          case measure => first | exact meas hx0 hlt | (rw [hw1]; exact meas hx0 hlt)
        · have e0 : (q.e == 0) = false := by simp [he]
          have HE : Aside0 (tot = (L, q)) := ⟨by rw [← HT.out, lsP_stop _ _ he]; simp⟩
          clear he
          go_wp2
          go_ret
          exact ⟨_, _, _, rfl, by rw [HE.out]; exact HO.out, by rw [HE.out]; exact HR.out⟩
      · have hd : decide (x < n) = false := decide_eq_false hlt
        have hk : k = 0 := by have := HX.out; omega
        subst hk
        have HE : Aside0 (tot = (L, q)) := ⟨by rw [← HT.out]; simp [lsP]⟩
        go_wp2
        go_ret
        exact ⟨_, _, _, rfl, by rw [HE.out]; exact HO.out, by rw [HE.out]; exact HR.out⟩
/-- Requests came. -/
structure GotReqs (w0 W : World) (g : Nat) (q : St) (e : Ending) (w' : World) : Prop where
  all : ∃ A n c, e = .returned (.slice A n c) ∧ Kd.R k90 90 w' W.heap.size (fun j => W.heap.size ≤ j) (.slice A n c) (lqP q).1
  rd : Rd w0 W g (lqP q).2 w'
theorem parse1_calls (w0 W : World) (g gp : Nat) (q : St) (hw : Words q.ws) (h : IsRd w0 W g q) (hB : Below w0.heap.size w0 W) (hgp : W.heap[gp]? = some (.cells #[.pointer (some ⟨g, 0, none⟩)] 93 (0, 0))) :
    Calls Try.prog 51 #[.pointer (some ⟨gp, 0, none⟩)] W fun e w' => GotReqs w0 W g q e w' := by
  have HC := Aside0.mk (list_req w0 W g q 64 (by decide) hw h hB)
  have hc := (blk_cell hgp 0).trans rfl
  clear h hB hw hgp
  go_enter Try.func51, Try.ntmps51
  go_wp2_with fail
  refine HC.out.mono ?_
  rintro e w1 ⟨A, n, c, rfl, ho, hr⟩
  have HO := Aside0.mk ho
  have HR := Aside0.mk hr
  clear ho hr hc HC
  go_wp2
  go_ret
  exact ⟨⟨A, n, c, rfl, HO.out⟩, HR.out⟩
set_option maxRecDepth 20000 in
set_option maxHeartbeats 4000000 in
theorem list_reqs (w0 W : World) (g : Nat) (q : St) (bound : Int) (hb : 0 ≤ bound ∧ bound ≤ 4294967295) (hw : Words q.ws) (h : IsRd w0 W g q) (hB : Below w0.heap.size w0 W) (gp : Nat) (hgp : W.heap[gp]? = some (.cells #[.pointer (some ⟨g, 0, none⟩)] 93 (0, 0))) (hne : gp ≠ g) :
    Calls Try.prog 50 #[.pointer (some ⟨g, 0, none⟩), .int .u32 bound, .func (.func 51) #[] #[.pointer (some ⟨gp, 0, none⟩)]] W fun e w' => ∃ A n c, e = .returned (.slice A n c) ∧ Kd.R (Kd.slice 90 k90) 87 w' W.heap.size (fun j => W.heap.size ≤ j) (.slice A n c) (lsR lqP bound q).1 ∧ Rd w0 W g (lsR lqP bound q).2 w' := by
  have HGP := Aside0.mk (And.intro hgp hne)
  clear hgp hne
  have HN := Aside0.mk (word_calls w0 W g q h hB)
  have HLT := Aside0.mk h.lt
  obtain ⟨n, hn⟩ : ∃ n, nextV q.ws = n := ⟨_, rfl⟩
  have hnw := hw.head
  have HQ := Aside0.mk (Words.stW hw)
  obtain ⟨tot, htot⟩ : ∃ t, lsR lqP bound q = t := ⟨_, rfl⟩
  have HLS : Aside0 (lsP lqP n.toNat (if bound < n then stF (stW q) 7 else stW q) = tot) := ⟨by rw [← htot]; unfold lsR; rw [hn]⟩
  rw [hn] at HN hnw
  rw [htot]
  clear htot
  generalize stW q = q1 at *
  have HNN := Aside0.mk hnw
  clear h hB hw hn hnw
  have hu := Try.underlying45
  go_enter Try.func50, Try.ntmps50
  go_wp2_with fail
  refine HN.out.mono ?_
  rintro e' w1 ⟨rfl, hr⟩
  have HR := Aside0.mk hr
  clear hr HN
  by_cases hgt : bound < n
  · have hd0 : decide (bound < n) = true := decide_eq_true hgt
    have HT : Aside0 (([] ++ (lsP lqP n.toNat (stF q1 7)).1, (lsP lqP n.toNat (stF q1 7)).2) = tot) := ⟨by rw [← HLS.out, if_pos hgt]; rfl⟩
    clear hgt hb HLS
    go_wp2_with fail
    refine (fault_calls w0 w1 g q1 7 HR.out.rd HR.out.bel).mono ?_
    rintro e' w2 ⟨rfl, hr⟩
    have HR : Aside0 (Rd w0 W g (stF q1 7) w2) := ⟨⟨hr.rd, hr.bel, HR.out.keep.trans hr.keep (.inl rfl)⟩⟩
    have HQ := Aside0.mk (Words.stF HQ.out 7)
    clear hr
    go_wp2_with fail
    go_loopw [8, 9] (fun v8 v9 wr => ∃ (x : Int) (k : Nat) (Av : Option Addr) (m c : Nat) (L : List (List Req)) (q : St), 0 ≤ x ∧ x ≤ n ∧ v8 = .slice Av m c ∧ v9 = .int .u32 x ∧ Aside0 ((k : Int) = n - x) ∧ Aside0 (Words q.ws) ∧ Aside0 (Rd w0 W g q wr) ∧ Aside0 (Kd.R (Kd.slice 90 k90) 87 wr W.heap.size (fun j => W.heap.size ≤ j) (.slice Av m c) L) ∧ Aside0 ((L ++ (lsP lqP k q).1, (lsP lqP k q).2) = tot) ∧ Aside0 ((L.length : Int) ≤ x)) (fun _ v _ => (n - intOf v).toNat)
    case atStart => exact ⟨0, n.toNat, none, 0, 0, [], (stF q1 7), Int.le_refl _, HNN.out.1, rfl, rfl, ⟨by have := HNN.out; omega⟩, HQ, HR, ⟨Kd.R_nil _ _ _ _ _⟩, HT, ⟨by simp⟩⟩
    case round =>
      clear HR HQ HT
      obtain ⟨x, k, Av, m, c, L, q, hx0, hx1, rfl, rfl, HX, HW, HR, HO, HT, HL⟩ := hrel
      have hc2 := HR.out.rd.c2
      by_cases hlt : x < n
      · have hd : decide (x < n) = true := decide_eq_true hlt
        by_cases he : q.e = 0
        · have e0 : (q.e == 0) = true := by simp [he]
          obtain ⟨k, rfl⟩ : ∃ j, k = j + 1 := ⟨k - 1, by have := HX.out; omega⟩
          have HT2 : Aside0 ((L ++ [(lqP q).1] ++ (lsP lqP k (lqP q).2).1, (lsP lqP k (lqP q).2).2) = tot) := ⟨by rw [← HT.out, lsP_step _ _ he]; simp⟩
          have HCON := Aside0.mk (parse1_calls w0 wr g gp q HW.out HR.out.rd HR.out.bel (HR.out.keep.blk HGP.out.1 HGP.out.2 (by simp)))
          have HX2 : Aside0 ((k : Int) = n - (x + 1)) := ⟨by have := HX.out; omega⟩
          have HW2 : Aside0 (Words (lqP q).2.ws) := ⟨lqP_words HW.out⟩
          rw [he] at hc2
          clear he e0 HT HX
          go_wp2_with fail
          refine HCON.out.mono ?_
          rintro e' w3 ⟨⟨Ai, ni, ci, rfl, hoi⟩, hr⟩
          have HR3 := Aside0.mk hr
          have HO3 := Aside0.mk (Kd.R_keep HO.out hr.keep (fun k hk => Nat.ne_of_gt (Nat.lt_of_lt_of_le HLT.out hk)))
          have hsz3 : W.heap.size ≤ w3.heap.size := Nat.le_trans HR.out.keep.1 hr.keep.1
          have hlen : L.length ≤ 4294967295 := by have := HL.out; have := HNN.out; omega
          have hown : ∀ k, wr.heap.size ≤ k → W.heap.size ≤ k ∧ some k ≠ (Value.slice Av m c).ownBlock := fun k hk => ⟨Nat.le_trans HR.out.keep.1 hk, fun e => Nat.not_le.mpr ((Kd.R_bound HO.out).1 k e.symm).2.2.1 hk⟩
          have hkp := HR.out.keep.1
          clear hr HO HCON hc2
          go_wp2_with (at_builtin; refine Kd.R_append (Kd.slice 90 k90) (w0 := w3) W.heap.size rfl (.tmp 29) (.tmp 32) 45 87 (.slice none 0 0) 24 rfl hu info_L rfl (by decide) (by decide) _ L (lqP q).1 [.slice Ai ni ci] (fun j => W.heap.size ≤ j) (fun j => wr.heap.size ≤ j) rfl rfl ?aP ?aQ ?aF ?aO ?aB ?aS ?aL ?_)
          case aP => exact (Kd.slice 90 k90).M_lower hkp ⟨_, rfl, hoi⟩
          case aQ => exact hown
          case aF => exact fun k hk => Nat.le_trans hsz3 hk
          case aO => exact HO3.out
          case aB => exact Below.refl _ _
          case aS => exact hsz3
          case aL => omega
          intro v1 w6 ho hb hg hat
          obtain ⟨A6, n6, c6, rfl⟩ : ∃ A n c, v1 = .slice A n c := by
            obtain ⟨A, c, h⟩ := Kd.R_slice ho
            exact ⟨A, _, c, h⟩
          have HO6 := Aside0.mk ho
          have HR6 : Aside0 (Rd w0 W g (lqP q).2 w6) := ⟨rd_low HR3.out HLT.out hsz3 hb (HR.out.keep.trans HR3.out.keep (.inl rfl))⟩
          have HL6 : Aside0 (((L ++ [(lqP q).1]).length : Int) ≤ x + 1) := ⟨by have := HL.out; simp; omega⟩
          have hw1 := u32_n hx0 hlt HNN.out.2
          clear ho hb hg hat hlen hsz3 HR
          go_wp2
          go_roundw
          case rel => exact ⟨x + 1, k, A6, n6, c6, L ++ [(lqP q).1], (lqP q).2, Int.le_trans hx0 (Int.le_of_lt (Int.lt_succ x)), Int.add_one_le_of_lt hlt, rfl, by go_num, HX2, HW2, HR6, HO6, HT2, HL6⟩
          case measure => first | exact meas hx0 hlt | (rw [hw1]; exact meas hx0 hlt)
        · have e0 : (q.e == 0) = false := by simp [he]
          have HE : Aside0 (tot = (L, q)) := ⟨by rw [← HT.out, lsP_stop _ _ he]; simp⟩
          clear he
          go_wp2
          go_ret
          exact ⟨_, _, _, rfl, by rw [HE.out]; exact HO.out, by rw [HE.out]; exact HR.out⟩
      · have hd : decide (x < n) = false := decide_eq_false hlt
        have hk : k = 0 := by have := HX.out; omega
        subst hk
        have HE : Aside0 (tot = (L, q)) := ⟨by rw [← HT.out]; simp [lsP]⟩
        go_wp2
        go_ret
        exact ⟨_, _, _, rfl, by rw [HE.out]; exact HO.out, by rw [HE.out]; exact HR.out⟩
  · have hd0 : decide (bound < n) = false := decide_eq_false hgt
    have HT : Aside0 (([] ++ (lsP lqP n.toNat q1).1, (lsP lqP n.toNat q1).2) = tot) := ⟨by rw [← HLS.out, if_neg hgt]; rfl⟩
    clear hgt hb HLS
    go_wp2_with fail
    go_loopw [8, 9] (fun v8 v9 wr => ∃ (x : Int) (k : Nat) (Av : Option Addr) (m c : Nat) (L : List (List Req)) (q : St), 0 ≤ x ∧ x ≤ n ∧ v8 = .slice Av m c ∧ v9 = .int .u32 x ∧ Aside0 ((k : Int) = n - x) ∧ Aside0 (Words q.ws) ∧ Aside0 (Rd w0 W g q wr) ∧ Aside0 (Kd.R (Kd.slice 90 k90) 87 wr W.heap.size (fun j => W.heap.size ≤ j) (.slice Av m c) L) ∧ Aside0 ((L ++ (lsP lqP k q).1, (lsP lqP k q).2) = tot) ∧ Aside0 ((L.length : Int) ≤ x)) (fun _ v _ => (n - intOf v).toNat)
    case atStart => exact ⟨0, n.toNat, none, 0, 0, [], q1, Int.le_refl _, HNN.out.1, rfl, rfl, ⟨by have := HNN.out; omega⟩, HQ, HR, ⟨Kd.R_nil _ _ _ _ _⟩, HT, ⟨by simp⟩⟩
    case round =>
      clear HR HQ HT
      obtain ⟨x, k, Av, m, c, L, q, hx0, hx1, rfl, rfl, HX, HW, HR, HO, HT, HL⟩ := hrel
      have hc2 := HR.out.rd.c2
      by_cases hlt : x < n
      · have hd : decide (x < n) = true := decide_eq_true hlt
        by_cases he : q.e = 0
        · have e0 : (q.e == 0) = true := by simp [he]
          obtain ⟨k, rfl⟩ : ∃ j, k = j + 1 := ⟨k - 1, by have := HX.out; omega⟩
          have HT2 : Aside0 ((L ++ [(lqP q).1] ++ (lsP lqP k (lqP q).2).1, (lsP lqP k (lqP q).2).2) = tot) := ⟨by rw [← HT.out, lsP_step _ _ he]; simp⟩
          have HCON := Aside0.mk (parse1_calls w0 wr g gp q HW.out HR.out.rd HR.out.bel (HR.out.keep.blk HGP.out.1 HGP.out.2 (by simp)))
          have HX2 : Aside0 ((k : Int) = n - (x + 1)) := ⟨by have := HX.out; omega⟩
          have HW2 : Aside0 (Words (lqP q).2.ws) := ⟨lqP_words HW.out⟩
          rw [he] at hc2
          clear he e0 HT HX
          go_wp2_with fail
          refine HCON.out.mono ?_
          rintro e' w3 ⟨⟨Ai, ni, ci, rfl, hoi⟩, hr⟩
          have HR3 := Aside0.mk hr
          have HO3 := Aside0.mk (Kd.R_keep HO.out hr.keep (fun k hk => Nat.ne_of_gt (Nat.lt_of_lt_of_le HLT.out hk)))
          have hsz3 : W.heap.size ≤ w3.heap.size := Nat.le_trans HR.out.keep.1 hr.keep.1
          have hlen : L.length ≤ 4294967295 := by have := HL.out; have := HNN.out; omega
          have hown : ∀ k, wr.heap.size ≤ k → W.heap.size ≤ k ∧ some k ≠ (Value.slice Av m c).ownBlock := fun k hk => ⟨Nat.le_trans HR.out.keep.1 hk, fun e => Nat.not_le.mpr ((Kd.R_bound HO.out).1 k e.symm).2.2.1 hk⟩
          have hkp := HR.out.keep.1
          clear hr HO HCON hc2
          go_wp2_with (at_builtin; refine Kd.R_append (Kd.slice 90 k90) (w0 := w3) W.heap.size rfl (.tmp 29) (.tmp 32) 45 87 (.slice none 0 0) 24 rfl hu info_L rfl (by decide) (by decide) _ L (lqP q).1 [.slice Ai ni ci] (fun j => W.heap.size ≤ j) (fun j => wr.heap.size ≤ j) rfl rfl ?aP ?aQ ?aF ?aO ?aB ?aS ?aL ?_)
          case aP => exact (Kd.slice 90 k90).M_lower hkp ⟨_, rfl, hoi⟩
          case aQ => exact hown
          case aF => exact fun k hk => Nat.le_trans hsz3 hk
          case aO => exact HO3.out
          case aB => exact Below.refl _ _
          case aS => exact hsz3
          case aL => omega
          intro v1 w6 ho hb hg hat
          obtain ⟨A6, n6, c6, rfl⟩ : ∃ A n c, v1 = .slice A n c := by
            obtain ⟨A, c, h⟩ := Kd.R_slice ho
            exact ⟨A, _, c, h⟩
          have HO6 := Aside0.mk ho
          have HR6 : Aside0 (Rd w0 W g (lqP q).2 w6) := ⟨rd_low HR3.out HLT.out hsz3 hb (HR.out.keep.trans HR3.out.keep (.inl rfl))⟩
          have HL6 : Aside0 (((L ++ [(lqP q).1]).length : Int) ≤ x + 1) := ⟨by have := HL.out; simp; omega⟩
          have hw1 := u32_n hx0 hlt HNN.out.2
          clear ho hb hg hat hlen hsz3 HR
          go_wp2
          go_roundw
          case rel => exact ⟨x + 1, k, A6, n6, c6, L ++ [(lqP q).1], (lqP q).2, Int.le_trans hx0 (Int.le_of_lt (Int.lt_succ x)), Int.add_one_le_of_lt hlt, rfl, by go_num, HX2, HW2, HR6, HO6, HT2, HL6⟩
          case measure => first | exact meas hx0 hlt | (rw [hw1]; exact meas hx0 hlt)
        · have e0 : (q.e == 0) = false := by simp [he]
          have HE : Aside0 (tot = (L, q)) := ⟨by rw [← HT.out, lsP_stop _ _ he]; simp⟩
          clear he
          go_wp2
          go_ret
          exact ⟨_, _, _, rfl, by rw [HE.out]; exact HO.out, by rw [HE.out]; exact HR.out⟩
      · have hd : decide (x < n) = false := decide_eq_false hlt
        have hk : k = 0 := by have := HX.out; omega
        subst hk
        have HE : Aside0 (tot = (L, q)) := ⟨by rw [← HT.out]; simp [lsP]⟩
        go_wp2
        go_ret
        exact ⟨_, _, _, rfl, by rw [HE.out]; exact HO.out, by rw [HE.out]; exact HR.out⟩
set_option maxRecDepth 20000 in
set_option maxHeartbeats 4000000 in
theorem list_int (w0 W : World) (g : Nat) (q : St) (bound : Int) (hb : 0 ≤ bound ∧ bound ≤ 4294967295) (hw : Words q.ws) (h : IsRd w0 W g q) (hB : Below w0.heap.size w0 W) :
    Calls Try.prog 54 #[.pointer (some ⟨g, 0, none⟩), .int .u32 bound, .func (.func 55) #[.pointer (some ⟨g, 0, none⟩)] #[]] W fun e w' => ∃ A n c, e = .returned (.slice A n c) ∧ Kd.R (Kd.int .i64) 3 w' W.heap.size (fun j => W.heap.size ≤ j) (.slice A n c) (lsR oneW bound q).1 ∧ Rd w0 W g (lsR oneW bound q).2 w' := by
  have HN := Aside0.mk (word_calls w0 W g q h hB)
  have HLT := Aside0.mk h.lt
  obtain ⟨n, hn⟩ : ∃ n, nextV q.ws = n := ⟨_, rfl⟩
  have hnw := hw.head
  have HQ := Aside0.mk (Words.stW hw)
  obtain ⟨tot, htot⟩ : ∃ t, lsR oneW bound q = t := ⟨_, rfl⟩
  have HLS : Aside0 (lsP oneW n.toNat (if bound < n then stF (stW q) 7 else stW q) = tot) := ⟨by rw [← htot]; unfold lsR; rw [hn]⟩
  rw [hn] at HN hnw
  rw [htot]
  clear htot
  generalize stW q = q1 at *
  have HNN := Aside0.mk hnw
  clear h hB hw hn hnw
  have hu := Try.underlying46
  go_enter Try.func54, Try.ntmps54
  go_wp2_with fail
  refine HN.out.mono ?_
  rintro e' w1 ⟨rfl, hr⟩
  have HR := Aside0.mk hr
  clear hr HN
  by_cases hgt : bound < n
  · have hd0 : decide (bound < n) = true := decide_eq_true hgt
    have HT : Aside0 (([] ++ (lsP oneW n.toNat (stF q1 7)).1, (lsP oneW n.toNat (stF q1 7)).2) = tot) := ⟨by rw [← HLS.out, if_pos hgt]; rfl⟩
    clear hgt hb HLS
    go_wp2_with fail
    refine (fault_calls w0 w1 g q1 7 HR.out.rd HR.out.bel).mono ?_
    rintro e' w2 ⟨rfl, hr⟩
    have HR : Aside0 (Rd w0 W g (stF q1 7) w2) := ⟨⟨hr.rd, hr.bel, HR.out.keep.trans hr.keep (.inl rfl)⟩⟩
    have HQ := Aside0.mk (Words.stF HQ.out 7)
    clear hr
    go_wp2_with fail
    go_loopw [8, 9] (fun v8 v9 wr => ∃ (x : Int) (k : Nat) (Av : Option Addr) (m c : Nat) (L : List Int) (q : St), 0 ≤ x ∧ x ≤ n ∧ v8 = .slice Av m c ∧ v9 = .int .u32 x ∧ Aside0 ((k : Int) = n - x) ∧ Aside0 (Words q.ws) ∧ Aside0 (Rd w0 W g q wr) ∧ Aside0 (Kd.R (Kd.int .i64) 3 wr W.heap.size (fun j => W.heap.size ≤ j) (.slice Av m c) L) ∧ Aside0 ((L ++ (lsP oneW k q).1, (lsP oneW k q).2) = tot) ∧ Aside0 ((L.length : Int) ≤ x)) (fun _ v _ => (n - intOf v).toNat)
    case atStart => exact ⟨0, n.toNat, none, 0, 0, [], (stF q1 7), Int.le_refl _, HNN.out.1, rfl, rfl, ⟨by have := HNN.out; omega⟩, HQ, HR, ⟨Kd.R_nil _ _ _ _ _⟩, HT, ⟨by simp⟩⟩
    case round =>
      clear HR HQ HT
      obtain ⟨x, k, Av, m, c, L, q, hx0, hx1, rfl, rfl, HX, HW, HR, HO, HT, HL⟩ := hrel
      have hc2 := HR.out.rd.c2
      by_cases hlt : x < n
      · have hd : decide (x < n) = true := decide_eq_true hlt
        by_cases he : q.e = 0
        · have e0 : (q.e == 0) = true := by simp [he]
          obtain ⟨k, rfl⟩ : ∃ j, k = j + 1 := ⟨k - 1, by have := HX.out; omega⟩
          have HT2 : Aside0 ((L ++ [(oneW q).1] ++ (lsP oneW k (oneW q).2).1, (lsP oneW k (oneW q).2).2) = tot) := ⟨by rw [← HT.out, lsP_step _ _ he]; simp⟩
          have HCON := Aside0.mk (number_calls w0 wr g q HW.out HR.out.rd HR.out.bel)
          have HX2 : Aside0 ((k : Int) = n - (x + 1)) := ⟨by have := HX.out; omega⟩
          have HW2 : Aside0 (Words (oneW q).2.ws) := ⟨Words.stW HW.out⟩
          rw [he] at hc2
          clear he e0 HT HX
          go_wp2_with fail
          refine HCON.out.mono ?_
          rintro e' w3 ⟨rfl, hr⟩
          have HR3 := Aside0.mk hr
          have HO3 := Aside0.mk (Kd.R_keep HO.out hr.keep (fun k hk => Nat.ne_of_gt (Nat.lt_of_lt_of_le HLT.out hk)))
          have hsz3 : W.heap.size ≤ w3.heap.size := Nat.le_trans HR.out.keep.1 hr.keep.1
          have hlen : L.length ≤ 4294967295 := by have := HL.out; have := HNN.out; omega
          clear hr HO HCON hc2
          go_wp2_with (at_builtin; refine Kd.R_append (Kd.int .i64) (w0 := w3) W.heap.size rfl (.tmp 29) (.tmp 32) 46 3 (.int .i64 0) 8 rfl hu info_I rfl (by decide) (by decide) _ L (nextV q.ws) [.int .i64 (nextV q.ws)] (fun j => W.heap.size ≤ j) (fun _ => False) rfl rfl ?aP ?aQ ?aF ?aO ?aB ?aS ?aL ?_)
          case aP => exact rfl
          case aQ => exact fun _ h => h.elim
          case aF => exact fun k hk => Nat.le_trans hsz3 hk
          case aO => exact HO3.out
          case aB => exact Below.refl _ _
          case aS => exact hsz3
          case aL => omega
          intro v1 w6 ho hb hg hat
          obtain ⟨A6, n6, c6, rfl⟩ : ∃ A n c, v1 = .slice A n c := by
            obtain ⟨A, c, h⟩ := Kd.R_slice ho
            exact ⟨A, _, c, h⟩
          have HO6 := Aside0.mk ho
          have HR6 : Aside0 (Rd w0 W g (stW q) w6) := ⟨rd_low HR3.out HLT.out hsz3 hb (HR.out.keep.trans HR3.out.keep (.inl rfl))⟩
          have HL6 : Aside0 (((L ++ [(nextV q.ws)]).length : Int) ≤ x + 1) := ⟨by have := HL.out; simp; omega⟩
          have hw1 := u32_n hx0 hlt HNN.out.2
          clear ho hb hg hat hlen hsz3 HR
          go_wp2
          go_roundw
          case rel => exact ⟨x + 1, k, A6, n6, c6, L ++ [(nextV q.ws)], (stW q), Int.le_trans hx0 (Int.le_of_lt (Int.lt_succ x)), Int.add_one_le_of_lt hlt, rfl, by go_num, HX2, HW2, HR6, HO6, HT2, HL6⟩
          case measure => first | exact meas hx0 hlt | (rw [hw1]; exact meas hx0 hlt)
        · have e0 : (q.e == 0) = false := by simp [he]
          have HE : Aside0 (tot = (L, q)) := ⟨by rw [← HT.out, lsP_stop _ _ he]; simp⟩
          clear he
          go_wp2
          go_ret
          exact ⟨_, _, _, rfl, by rw [HE.out]; exact HO.out, by rw [HE.out]; exact HR.out⟩
      · have hd : decide (x < n) = false := decide_eq_false hlt
        have hk : k = 0 := by have := HX.out; omega
        subst hk
        have HE : Aside0 (tot = (L, q)) := ⟨by rw [← HT.out]; simp [lsP]⟩
        go_wp2
        go_ret
        exact ⟨_, _, _, rfl, by rw [HE.out]; exact HO.out, by rw [HE.out]; exact HR.out⟩
  · have hd0 : decide (bound < n) = false := decide_eq_false hgt
    have HT : Aside0 (([] ++ (lsP oneW n.toNat q1).1, (lsP oneW n.toNat q1).2) = tot) := ⟨by rw [← HLS.out, if_neg hgt]; rfl⟩
    clear hgt hb HLS
    go_wp2_with fail
    go_loopw [8, 9] (fun v8 v9 wr => ∃ (x : Int) (k : Nat) (Av : Option Addr) (m c : Nat) (L : List Int) (q : St), 0 ≤ x ∧ x ≤ n ∧ v8 = .slice Av m c ∧ v9 = .int .u32 x ∧ Aside0 ((k : Int) = n - x) ∧ Aside0 (Words q.ws) ∧ Aside0 (Rd w0 W g q wr) ∧ Aside0 (Kd.R (Kd.int .i64) 3 wr W.heap.size (fun j => W.heap.size ≤ j) (.slice Av m c) L) ∧ Aside0 ((L ++ (lsP oneW k q).1, (lsP oneW k q).2) = tot) ∧ Aside0 ((L.length : Int) ≤ x)) (fun _ v _ => (n - intOf v).toNat)
    case atStart => exact ⟨0, n.toNat, none, 0, 0, [], q1, Int.le_refl _, HNN.out.1, rfl, rfl, ⟨by have := HNN.out; omega⟩, HQ, HR, ⟨Kd.R_nil _ _ _ _ _⟩, HT, ⟨by simp⟩⟩
    case round =>
      clear HR HQ HT
      obtain ⟨x, k, Av, m, c, L, q, hx0, hx1, rfl, rfl, HX, HW, HR, HO, HT, HL⟩ := hrel
      have hc2 := HR.out.rd.c2
      by_cases hlt : x < n
      · have hd : decide (x < n) = true := decide_eq_true hlt
        by_cases he : q.e = 0
        · have e0 : (q.e == 0) = true := by simp [he]
          obtain ⟨k, rfl⟩ : ∃ j, k = j + 1 := ⟨k - 1, by have := HX.out; omega⟩
          have HT2 : Aside0 ((L ++ [(oneW q).1] ++ (lsP oneW k (oneW q).2).1, (lsP oneW k (oneW q).2).2) = tot) := ⟨by rw [← HT.out, lsP_step _ _ he]; simp⟩
          have HCON := Aside0.mk (number_calls w0 wr g q HW.out HR.out.rd HR.out.bel)
          have HX2 : Aside0 ((k : Int) = n - (x + 1)) := ⟨by have := HX.out; omega⟩
          have HW2 : Aside0 (Words (oneW q).2.ws) := ⟨Words.stW HW.out⟩
          rw [he] at hc2
          clear he e0 HT HX
          go_wp2_with fail
          refine HCON.out.mono ?_
          rintro e' w3 ⟨rfl, hr⟩
          have HR3 := Aside0.mk hr
          have HO3 := Aside0.mk (Kd.R_keep HO.out hr.keep (fun k hk => Nat.ne_of_gt (Nat.lt_of_lt_of_le HLT.out hk)))
          have hsz3 : W.heap.size ≤ w3.heap.size := Nat.le_trans HR.out.keep.1 hr.keep.1
          have hlen : L.length ≤ 4294967295 := by have := HL.out; have := HNN.out; omega
          clear hr HO HCON hc2
          go_wp2_with (at_builtin; refine Kd.R_append (Kd.int .i64) (w0 := w3) W.heap.size rfl (.tmp 29) (.tmp 32) 46 3 (.int .i64 0) 8 rfl hu info_I rfl (by decide) (by decide) _ L (nextV q.ws) [.int .i64 (nextV q.ws)] (fun j => W.heap.size ≤ j) (fun _ => False) rfl rfl ?aP ?aQ ?aF ?aO ?aB ?aS ?aL ?_)
          case aP => exact rfl
          case aQ => exact fun _ h => h.elim
          case aF => exact fun k hk => Nat.le_trans hsz3 hk
          case aO => exact HO3.out
          case aB => exact Below.refl _ _
          case aS => exact hsz3
          case aL => omega
          intro v1 w6 ho hb hg hat
          obtain ⟨A6, n6, c6, rfl⟩ : ∃ A n c, v1 = .slice A n c := by
            obtain ⟨A, c, h⟩ := Kd.R_slice ho
            exact ⟨A, _, c, h⟩
          have HO6 := Aside0.mk ho
          have HR6 : Aside0 (Rd w0 W g (stW q) w6) := ⟨rd_low HR3.out HLT.out hsz3 hb (HR.out.keep.trans HR3.out.keep (.inl rfl))⟩
          have HL6 : Aside0 (((L ++ [(nextV q.ws)]).length : Int) ≤ x + 1) := ⟨by have := HL.out; simp; omega⟩
          have hw1 := u32_n hx0 hlt HNN.out.2
          clear ho hb hg hat hlen hsz3 HR
          go_wp2
          go_roundw
          case rel => exact ⟨x + 1, k, A6, n6, c6, L ++ [(nextV q.ws)], (stW q), Int.le_trans hx0 (Int.le_of_lt (Int.lt_succ x)), Int.add_one_le_of_lt hlt, rfl, by go_num, HX2, HW2, HR6, HO6, HT2, HL6⟩
          case measure => first | exact meas hx0 hlt | (rw [hw1]; exact meas hx0 hlt)
        · have e0 : (q.e == 0) = false := by simp [he]
          have HE : Aside0 (tot = (L, q)) := ⟨by rw [← HT.out, lsP_stop _ _ he]; simp⟩
          clear he
          go_wp2
          go_ret
          exact ⟨_, _, _, rfl, by rw [HE.out]; exact HO.out, by rw [HE.out]; exact HR.out⟩
      · have hd : decide (x < n) = false := decide_eq_false hlt
        have hk : k = 0 := by have := HX.out; omega
        subst hk
        have HE : Aside0 (tot = (L, q)) := ⟨by rw [← HT.out]; simp [lsP]⟩
        go_wp2
        go_ret
        exact ⟨_, _, _, rfl, by rw [HE.out]; exact HO.out, by rw [HE.out]; exact HR.out⟩
end Go.Proofs.Ytbpmmabdjabfcaa.Script
