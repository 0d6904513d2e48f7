/- A journal on a disk with power that is read, crashed and opened again; JournalAgain: the walk. JournalAgain: the walk. JournalTurns: the walk. How an array of four whole numbers that comes in is read. -/
import Derived.Test.YtejfdiiennnjjaaZl
import Derived.Test.YtejfdiiennnjjaaZb
namespace Go.Proofs.Ytejfdiiennnjjaa.J
open Go.RowKit Go.Proofs Go.Proofs.Ytejfdiiennnjjaa Go.Proofs.YtejfdiiennnjjaaW.PrintWords Go.Proofs.YtejfdiiennnjjaaW.PrintLast Go.Proofs.YtejfdiiennnjjaaW.PrintMore Go.Proofs.Ytejfdiiennnjjaa.D
set_option linter.unusedVariables false

theorem Two.lie0 {d : Dk} {A C : ByteArray} (h : Two d A C) : Lie d 0 A ⟨#[]⟩ C ⟨#[]⟩ := ⟨h.made, h.fits, .inl rfl, h.s0, h.l0, h.s1, h.l1⟩
theorem Two.lie1 {d : Dk} {A C : ByteArray} (h : Two d A C) : Lie d 1 C ⟨#[]⟩ A ⟨#[]⟩ := ⟨h.made, h.fits, .inr rfl, h.s1, h.l1, h.s0, h.l0⟩
theorem two_of0 {d : Dk} {A C : ByteArray} (h : Lie d 0 A ⟨#[]⟩ C ⟨#[]⟩) (h1 : d.dead = false) (h2 : d.left = -1) : Two d A C := ⟨h.made, h1, h2, h.fits, h.s, h.l, h.s', h.l'⟩
theorem two_of1 {d : Dk} {A C : ByteArray} (h : Lie d 1 C ⟨#[]⟩ A ⟨#[]⟩) (h1 : d.dead = false) (h2 : d.left = -1) : Two d A C := ⟨h.made, h1, h2, h.fits, h.s', h.l', h.s, h.l⟩
section
variable {jb db B g q : Nat} {st : ByteArray} {l : List ByteArray} {A C : ByteArray} {w w' : World} {f : Int}
theorem jt_read0 (h : Jt jb db f g q st l A C B w) : Calls Try.prog 41 #[.pointer (some ⟨db, 0, none⟩), .int .i64 0] w fun e w' => e = .returned (.tuple #[.string A, .int .i64 0]) ∧ Jt jb db f g q st l A C B w' ∧ Below B w w' ∧ ∃ d, D.Turn db d w w' := by
  obtain ⟨j, d, J, rfl, e2, e3, e4, e5, e6, t⟩ := h.ex
  have R := D.Read_any j.db d 0 w J.dk t.fits
  have a0 : allOf d 0 = A := by unfold allOf; rw [t.rdy 0 (by omega) (by omega), if_neg (by simp), t.lie0.s, t.lie0.l, none_app]
  rw [a0, t.rdy 0 (by omega) (by omega)] at R
  exact R.mono fun e w' ⟨he, T⟩ => ⟨he, ⟨j, d, J.turn T, rfl, e2, e3, e4, e5, e6, t⟩, T.below B J.bd, d, T⟩
theorem jt_read1 (h : Jt jb db f g q st l A C B w) : Calls Try.prog 41 #[.pointer (some ⟨db, 0, none⟩), .int .i64 1] w fun e w' => e = .returned (.tuple #[.string C, .int .i64 0]) ∧ Jt jb db f g q st l A C B w' ∧ Below B w w' ∧ ∃ d, D.Turn db d w w' := by
  obtain ⟨j, d, J, rfl, e2, e3, e4, e5, e6, t⟩ := h.ex
  have R := D.Read_any j.db d 1 w J.dk t.fits
  have a0 : allOf d 1 = C := by unfold allOf; rw [t.rdy 1 (by omega) (by omega), if_neg (by simp), t.lie1.s, t.lie1.l, none_app]
  rw [a0, t.rdy 1 (by omega) (by omega)] at R
  exact R.mono fun e w' ⟨he, T⟩ => ⟨he, ⟨j, d, J.turn T, rfl, e2, e3, e4, e5, e6, t⟩, T.below B J.bd, d, T⟩
theorem jt_crash (h : Jt jb db f g q st l A C B w) (k0 k1 k2 k3 : Int) : Calls Try.prog 37 #[.pointer (some ⟨db, 0, none⟩), .agg #[.int .i64 k0, .int .i64 k1, .int .i64 k2, .int .i64 k3]] w fun e w' => e = .returned (.tuple #[]) ∧ Jt jb db f g q st l A C B w' ∧ Below B w w' := by
  obtain ⟨j, d, J, rfl, e2, e3, e4, e5, e6, t⟩ := h.ex
  obtain ⟨c1, c2, c3⟩ := t.lie0.crash k0 k1 k2 k3
  rw [keep_none, keep_none] at c1
  exact (D.Crash_made j.db d k0 k1 k2 k3 w J.dk t.fits t.made).mono fun e w' ⟨he, T⟩ => ⟨he, ⟨j, _, J.turn T, rfl, e2, e3, e4, e5, e6, two_of0 c1 c2 c3⟩, T.below B J.bd⟩
/-- A journal that was opened, for reading. -/
def Opened (jb db : Nat) (q : Nat) (st : ByteArray) (l : List ByteArray) (B : Nat) (w : World) : Prop := ∃ j, Is jb j w ∧ jb ≠ db ∧ Tl w B (fun k => k ≠ jb ∧ k ≠ db) j.cv l ∧ j.seq = (q : Int) ∧ j.state = st
theorem Opened.step {jb2 : Nat} (h : Opened jb2 db q st l B w) (hz : w.heap.size ≤ w'.heap.size) (hm : ∀ k, k ≠ db → k < w.heap.size → w'.heap[k]? = w.heap[k]?) : Opened jb2 db q st l B w' := by
  obtain ⟨j, h1, h2, h3, r⟩ := h
  exact ⟨j, (hm _ h2 (lt_of_block h1)).trans h1, h2, h3.step hz (fun k hk hl => hm k hk.2 hl), r⟩
theorem Opened.later {jb2 : Nat} (h : Opened jb2 db q st l B w) (hb : Below w.heap.size w w') : Opened jb2 db q st l B w' := h.step hb.size (fun k _ hl => hb.block k hl)
theorem Opened.drewN {jb2 : Nat} (h : Opened jb2 db q st l B w) (n : Nat) : Opened jb2 db q st l B (w.drewN n) := h.step (Nat.le_refl _) (fun _ _ _ => rfl)
theorem Opened.turn {jb2 : Nat} {d : Dk} (h : Opened jb2 db q st l B w) (T : D.Turn db d w w') : Opened jb2 db q st l B w' := h.step T.size (fun k hk hl => T.others k hl hk)
theorem op_state {jb2 : Nat} (h : Opened jb2 db q st l B w) : Calls Try.prog 46 #[.pointer (some ⟨jb2, 0, none⟩)] w fun e w' => e = .returned (.string st) ∧ w' = w := by
  obtain ⟨j, h1, h2, h3, e1, rfl⟩ := h
  exact State_any jb2 j w h1
theorem op_seq {jb2 : Nat} (h : Opened jb2 db q st l B w) (hq : q ≤ 1000000000) (hl : l.length ≤ 1000000000) : Calls Try.prog 48 #[.pointer (some ⟨jb2, 0, none⟩)] w fun e w' => e = .returned (.int .i64 ((q + l.length : Nat) : Int)) ∧ ∃ n, w' = w.drewN n := by
  obtain ⟨j, h1, h2, h3, e1, rfl⟩ := h
  obtain ⟨A, c, hv, _⟩ := h3.reads hl
  have := Seq_any jb2 j A l.length c w h1 hv (by omega) (by omega) (by omega)
  rw [e1] at this
  push_cast
  exact this
theorem op_cmds {jb2 : Nat} (h : Opened jb2 db q st l B w) (hl : l.length ≤ 1000000000) : Calls Try.prog 47 #[.pointer (some ⟨jb2, 0, none⟩)] w fun e w' => ∃ v, e = .returned v ∧ Kd.R Kd.string 9 w' w.heap.size (fun _ => True) v l ∧ Below w.heap.size w w' := by
  obtain ⟨j, h1, h2, h3, r⟩ := h
  obtain ⟨A, c, hv, _, hC⟩ := h3.reads hl
  exact Cmds_any jb2 j l A c w h1 hv hC hl
/-- Open, the second file without a state. -/
theorem jt_open0 {o : Option Fd} (h : Jt jb db f g q st l (cont 1 0 st l) C B w) (ty : Tells C o) (ho : gO o < 1) (hl : Facts.okAll l = true) (hn : (chunks st).length + l.length ≤ 1000000) :
    Calls Try.prog 50 #[.pointer (some ⟨db, 0, none⟩)] w fun e w' => ∃ jb2, e = .returned (.tuple #[.pointer (some ⟨jb2, 0, none⟩), .int .i64 0]) ∧ Opened jb2 db 0 st l B w' ∧ Jt jb db f g q st l (cont 1 0 st l) C B w' ∧ Below B w w' := by
  obtain ⟨j, d, J, rfl, e2, e3, e4, e5, e6, t⟩ := h.ex
  obtain ⟨s1, s2, s3, s4⟩ := t.lie0.syn_go t.dead (by rw [t.left]; decide)
  rw [none_app] at s2
  have hl2 : (synD d 0).left = -1 := by rw [s4, t.left]; rfl
  refine (open_any j.db d d 0 _ _ _ o w J.dk t.dead t.lie0 (tells_cont 1 0 st l hl (by omega) (by omega) (by omega) hn) ty ho (.inl ⟨rfl, rfl⟩) (.inl s1)).mono fun e w' hp => ?_
  rcases hp with ⟨_, jb2, A2, c2, he, J2, T, _⟩ | ⟨h13, _⟩
  · exact ⟨jb2, he, ⟨_, J2.jn, J2.ne, (J2.low J.bd).cm, rfl, rfl⟩, ⟨j, _, J.turn T, rfl, e2, e3, e4, e5, e6, two_of0 s2 s3 hl2⟩, T.below B J.bd⟩
  · omega
/-- Open, where the second file counts. -/
theorem jt_open1 {g' q' : Nat} {st' : ByteArray} {o : Option Fd} (h : Jt jb db f g q st l A (cont g' q' st' l) B w) (ty : Tells A o) (ho : gO o < g') (hl : Facts.okAll l = true) (h1 : 1 ≤ g') (h2 : g' ≤ 1000000000) (h3 : q' ≤ 1000000000) (hn : (chunks st').length + l.length ≤ 1000000) :
    Calls Try.prog 50 #[.pointer (some ⟨db, 0, none⟩)] w fun e w' => ∃ jb2, e = .returned (.tuple #[.pointer (some ⟨jb2, 0, none⟩), .int .i64 0]) ∧ Opened jb2 db q' st' l B w' ∧ Below B w w' := by
  obtain ⟨j, d, J, rfl, e2, e3, e4, e5, e6, t⟩ := h.ex
  obtain ⟨s1, s2, s3, s4⟩ := t.lie1.syn_go t.dead (by rw [t.left]; decide)
  refine (open_any j.db d d 1 _ _ _ o w J.dk t.dead t.lie1 (tells_cont g' q' st' l hl h1 h2 h3 hn) ty ho (.inl ⟨rfl, rfl⟩) (.inl s1)).mono fun e w' hp => ?_
  rcases hp with ⟨_, jb2, A2, c2, he, J2, T, _⟩ | ⟨h13, _⟩
  · exact ⟨jb2, he, ⟨_, J2.jn, J2.ne, (J2.low J.bd).cm, rfl, rfl⟩, T.below B J.bd⟩
  · omega
set_option maxRecDepth 100000 in
theorem jt_add_big (h : Jt jb db f g q st l A C B w) (cmd : ByteArray) (hs : 4096 < cmd.size) (hm : cmd.size ≤ 140737488355328) :
    Calls Try.prog 44 #[.pointer (some ⟨jb, 0, none⟩), .string cmd] w fun e w' => e = .returned (.int .i64 2) ∧ w' = w := by
  obtain ⟨j, d, J, rfl, e2, e3, e4, e5, e6, t⟩ := h.ex
  have R := ready_any jb j w J.jn
  unfold jrdy at R
  rw [e6, if_neg (by simp)] at R
  go_enter Try.func44, Try.ntmps44
  go_wp2_with fail
  refine R.mono ?_; rintro e w1 ⟨rfl, rfl⟩
  go_wp2_with fail
  go_ret
  exact ⟨rfl, rfl⟩
end
theorem cont_size (g q : Nat) (st : ByteArray) (l : List ByteArray) : (cont g q st l).size = (lay g q st).size + Facts.laid l := by
  unfold cont lay
  rw [Facts.S_size, Facts.S_size, ← List.cons_append, flat_append, List.length_append, Facts.flat_len l]
/-- The commands that are taken. -/
def acc (l : List ByteArray) : List ByteArray := l.filter fun s => decide (s.size ≤ 4096)
theorem acc_ok (l : List ByteArray) : Facts.okAll (acc l) = true := by
  unfold Facts.okAll acc
  rw [List.all_eq_true]
  exact fun s hs => (List.mem_filter.1 hs).2
theorem acc_laid (l : List ByteArray) : Facts.laid (acc l) ≤ Facts.laid l ∧ (acc l).length ≤ l.length := by
  induction l with
  | nil => exact ⟨Nat.le_refl _, Nat.le_refl _⟩
  | cons s l ih =>
    have e : Facts.laid (s :: l) = s.size + 12 + Facts.laid l := by simp [Facts.laid]
    unfold acc at ih ⊢
    rw [List.filter_cons]
    split
    · rw [show Facts.laid (s :: l.filter fun s => decide (s.size ≤ 4096)) = s.size + 12 + Facts.laid (l.filter fun s => decide (s.size ≤ 4096)) by simp [Facts.laid], List.length_cons, List.length_cons]
      omega
    · rw [List.length_cons]; omega
theorem acc_succ (l : List ByteArray) (k : Nat) (h : k < l.length) : acc (l.take (k + 1)) = if l[k].size ≤ 4096 then acc (l.take k) ++ [l[k]] else acc (l.take k) := by
  unfold acc
  rw [List.take_succ_eq_append_getElem h, List.filter_append, List.filter_cons]
  by_cases hs : l[k].size ≤ 4096
  · simp [hs]
  · simp [hs]
theorem laid_take (l : List ByteArray) (k : Nat) : Facts.laid (l.take k) ≤ Facts.laid l := by
  have : Facts.laid l = Facts.laid (l.take k) + Facts.laid (l.drop k) := by
    conv => lhs; rw [← List.take_append_drop k l]
    unfold Facts.laid
    rw [List.map_append, List.sum_append]
  omega
theorem laid_len (l : List ByteArray) : 12 * l.length ≤ Facts.laid l := by
  induction l with
  | nil => exact Nat.le_refl _
  | cons s l ih =>
    rw [show Facts.laid (s :: l) = s.size + 12 + Facts.laid l by simp [Facts.laid], List.length_cons]
    omega
theorem small_any (A : Option Addr) (c : Nat) (l : List ByteArray) (w : World) (hC : Kd.C Kd.string w A l.length l) (hc : l.length ≤ c) (hs : ∀ s ∈ l, s.size ≤ 140737488351232) :
    ∃ b, (b = true → Facts.laid l ≤ 21200) ∧ Calls Try.prog 20 #[.slice A l.length c] w fun e w' => e = .returned (.bool b) ∧ ∃ n, w' = w.drewN n := by
  obtain ⟨b, h1, h2⟩ := Facts.Small_ev l hs
  obtain ⟨k, hk⟩ := h1.rounds
  exact ⟨b, h2, (F.lombardref07_Small.calls k A c l b w hC hc hk).mono fun e w' h => ⟨h.1, h.2.out⟩⟩
end Go.Proofs.Ytejfdiiennnjjaa.J
namespace Go.Proofs.Ytejfdiiennnjjaa.J
open Go.RowKit Go.Proofs Go.Proofs.Ytejfdiiennnjjaa Go.Proofs.YtejfdiiennnjjaaW.PrintWords Go.Proofs.YtejfdiiennnjjaaW.PrintLast Go.Proofs.YtejfdiiennnjjaaW.PrintMore Go.Proofs.Ytejfdiiennnjjaa.D
set_option linter.unusedVariables false

theorem drewB (B : Nat) (w : World) (n : Nat) : Below B w (w.drewN n) := ⟨rfl, rfl, rfl, Nat.le_refl _, fun _ _ => rfl⟩
theorem laid_succ (l : List ByteArray) (k : Nat) (h : k < l.length) : l[k].size + 12 ≤ Facts.laid l := by
  have h1 := laid_take l (k + 1)
  rw [List.take_succ_eq_append_getElem h] at h1
  unfold Facts.laid at h1 ⊢
  rw [List.map_append, List.sum_append, List.map_singleton, List.sum_singleton] at h1
  omega
set_option maxRecDepth 100000 in
set_option maxHeartbeats 8000000 in
theorem again_big (st : ByteArray) (A : Option Addr) (c : Nat) (l : List ByteArray) (x0 x1 x2 x3 : Int) (w : World) (hs : st.size ≤ 140737488351232) (hb : 9000 < st.size) :
    Calls Try.prog 14 #[.string st, .slice A l.length c, .agg #[.int .i64 x0, .int .i64 x1, .int .i64 x2, .int .i64 x3]] w fun e w' => e = .returned (.bool true) ∧ Below w.heap.size w w' := by
  go_enter Try.func14, Try.ntmps14
  go_wp2_with fail
  refine (awake_any _).mono ?_; rintro e w5 ⟨rfl, b5⟩
  go_wp2
  go_ret
  exact ⟨rfl, ((Below.refl _ _).alloc (Nat.le_refl _) _).trans (b5.mono (by simp))⟩
set_option maxRecDepth 100000 in
set_option maxHeartbeats 8000000 in
theorem again_not (st : ByteArray) (A : Option Addr) (c : Nat) (l : List ByteArray) (x0 x1 x2 x3 : Int) (w : World) (hb : ¬ 9000 < st.size)
    (hS : ∀ w', Below w.heap.size w w' → Calls Try.prog 20 #[.slice A l.length c] w' fun e w'' => e = .returned (.bool false) ∧ ∃ n, w'' = w'.drewN n) :
    Calls Try.prog 14 #[.string st, .slice A l.length c, .agg #[.int .i64 x0, .int .i64 x1, .int .i64 x2, .int .i64 x3]] w fun e w' => e = .returned (.bool true) ∧ Below w.heap.size w w' := by
  have b0 : Below w.heap.size w (w.alloc (.cells #[.int .i64 x0, .int .i64 x1, .int .i64 x2, .int .i64 x3] 59)) := (Below.refl _ _).alloc (Nat.le_refl _) _
  have S := hS _ b0
  clear hS
  go_enter Try.func14, Try.ntmps14
  go_wp2_with fail
  refine S.mono ?_; rintro e w1 ⟨rfl, n1, rfl⟩
  go_wp2_with fail
  refine (awake_any _).mono ?_; rintro e w5 ⟨rfl, b5⟩
  go_wp2
  go_ret
  exact ⟨rfl, b0.trans ((drewB _ _ n1).trans (b5.mono (show w.heap.size ≤ (w.alloc (.cells #[.int .i64 x0, .int .i64 x1, .int .i64 x2, .int .i64 x3] 59)).heap.size by simp)))⟩
set_option maxRecDepth 100000 in
set_option maxHeartbeats 16000000 in
theorem again_go (st : ByteArray) (A : Option Addr) (c : Nat) (l : List ByteArray) (x0 x1 x2 x3 : Int) (w : World) (hb : ¬ 9000 < st.size) (hC : Kd.C Kd.string w A l.length l) (hlc : l.length ≤ c) (hL : Facts.laid l ≤ 21200)
    (hS : ∀ w', Below w.heap.size w w' → Calls Try.prog 20 #[.slice A l.length c] w' fun e w'' => e = .returned (.bool true) ∧ ∃ n, w'' = w'.drewN n) :
    Calls Try.prog 14 #[.string st, .slice A l.length c, .agg #[.int .i64 x0, .int .i64 x1, .int .i64 x2, .int .i64 x3]] w fun e w' => e = .returned (.bool true) ∧ Below w.heap.size w w' := by
  have b0 : Below w.heap.size w (w.alloc (.cells #[.int .i64 x0, .int .i64 x1, .int .i64 x2, .int .i64 x3] 59)) := (Below.refl _ _).alloc (Nat.le_refl _) _
  have S := hS _ b0
  have hll := laid_len l
  have z0 := lay_bound 1 0 st (by omega)
  clear hS
  go_enter Try.func14, Try.ntmps14
  go_wp2_with fail
  refine S.mono ?_; rintro e w1 ⟨rfl, n1, rfl⟩
  clear S
  have b1 : Below w.heap.size w ((w.alloc (.cells #[.int .i64 x0, .int .i64 x1, .int .i64 x2, .int .i64 x3] 59)).drewN n1) := b0.trans ⟨rfl, rfl, rfl, Nat.le_refl _, fun _ _ => rfl⟩
  have hk : ((w.alloc (.cells #[.int .i64 x0, .int .i64 x1, .int .i64 x2, .int .i64 x3] 59)).drewN n1).heap[w.heap.size]? = some (.cells #[.int .i64 x0, .int .i64 x1, .int .i64 x2, .int .i64 x3] 59 (0, 0)) := heap_alloc_new _ _
  generalize (w.alloc (.cells #[.int .i64 x0, .int .i64 x1, .int .i64 x2, .int .i64 x3] 59)).drewN n1 = w1 at *
  have hw1 := lt_of_block hk
  have HK := Lib.hid hk
  have HB1 := Lib.hid b1
  have HC := Lib.hid hC
  clear b0 b1 hk hC
  go_wp2_with fail
  refine (D.New_any w1).mono ?_; rintro e w2 ⟨rfl, h2, b2⟩
  go_wp2_with fail
  refine (jt_format w1.heap.size st w2 h2 (by omega) (by omega)).mono ?_; rintro e w3 ⟨jb, rfl, j3, b3⟩
  have B3 := b2.trans b3
  have HB3 := Lib.hid B3
  clear b2 b3 h2 B3
  go_wp2_with fail
  go_loopw [10] (fun i wr => ∃ k : Nat, k ≤ l.length ∧ k ≤ 30 ∧ i = .int .i64 (k : Int) ∧ Jt jb w1.heap.size 0 1 0 st (acc (l.take k)) (cont 1 0 st (acc (l.take k))) ⟨#[]⟩ w1.heap.size wr ∧ Below w1.heap.size w1 wr) (fun i _ => l.length - (intOf i).toNat)
  case atStart => exact ⟨0, Nat.zero_le _, by omega, rfl, by show Jt jb _ 0 1 0 st [] (cont 1 0 st []) _ _ _; rw [cont_nil]; exact j3, HB3.out⟩
  case round =>
    obtain ⟨k, hkl, hk30, rfl, J, B⟩ := hrel
    by_cases hgo : k < l.length ∧ k < 30
    · obtain ⟨hlt, h30⟩ := hgo
      have hC := Kd.C_below HC.out (HB1.out.trans (B.mono (Nat.le_of_lt hw1)))
      obtain ⟨ad, hA, hc⟩ := Kd.at_string hC (k : Int) (by omega) (by omega)
      have e : rdOf ByteArray.empty l (k : Int) = l[k] := by
        unfold rdOf
        rw [Int.toNat_natCast, List.getD_eq_getElem?_getD, List.getElem?_eq_getElem hlt, Option.getD_some]
      rw [e, Int.toNat_natCast] at hc
      subst hA
      have HB := Lib.hid B
      have a1 := acc_succ l k hlt
      have a2 := acc_laid (l.take k)
      have a3 := laid_take l k
      have a4 := cont_size 1 0 st (acc (l.take k))
      have a5 := laid_len l
      have a6 := laid_succ l k hlt
      have a7 : (l.take k).length ≤ 30 := by rw [List.length_take]; omega
      by_cases hs : l[k].size ≤ 4096
      · rw [if_pos hs] at a1
        have R := jt_add0 J l[k] hs (by omega) (by omega)
        rw [show cont 1 0 st (acc (l.take k)) ++ rec1 l[k] = cont 1 0 st (acc (l.take k) ++ [l[k]]) from cont_add 1 0 st _ _, ← a1] at R
        have HA1 := Lib.hid a1
        clear hC e J B a1 a2 a3 a4 a5 a6
        go_wp2_with fail
        refine R.mono ?_; rintro e w5 ⟨rfl, J5, b5⟩
        clear R
        have B5 := HB.out.trans b5
        clear b5
        go_wp2_with fail
        go_roundw
        case rel => exact ⟨k + 1, by omega, by omega, by go_num, J5, B5⟩
        case measure => simp [intOf]; omega
      · rw [if_neg hs] at a1
        have R := jt_add_big J l[k] (by omega) (by omega)
        rw [← a1] at J
        have HA1 := Lib.hid a1
        have HJ := Lib.hid J
        clear hC e J B a1 a2 a3 a4 a5 a6
        go_wp2_with fail
        refine R.mono ?_; rintro e w5 ⟨rfl, rfl⟩
        clear R
        go_wp2_with fail
        go_roundw
        case rel => exact ⟨k + 1, by omega, by omega, by go_num, HJ.out, HB.out⟩
        case measure => simp [intOf]; omega
    · have a2 := acc_laid (l.take k)
      have a3 := laid_take l k
      have a4 := laid_len (acc (l.take k))
      have a5 := chunks_few st
      have aok := acc_ok (l.take k)
      generalize acc (l.take k) = m at *
      have HOK := Lib.hid aok
      have hml : m.length ≤ 2000 := by omega
      have HB := Lib.hid B
      have hstop : ¬ k < l.length ∨ (k < l.length ∧ ¬ k < 30) := by omega
      clear aok a2 a3 a4 B hgo
      rcases hstop with hst | ⟨hst, hst2⟩
      all_goals
        go_wp2_with fail
        refine (jt_read0 J).mono ?_; rintro e w5 ⟨rfl, J5, b5, _⟩
        have B5 := HB.out.trans b5
        clear b5 J
        go_wp2_with fail
        refine (jt_read1 J5).mono ?_; rintro e w6 ⟨rfl, J6, b6, _⟩
        have B6 := B5.trans b6
        clear b6 B5 J5
        have hk6 := (B6.block _ hw1).trans HK.out
        have g0 : w6.cell? ⟨w.heap.size, 0, none⟩ = some (.int .i64 x0) := by simp [World.cell?, hk6]
        have g1 : w6.cell? ⟨w.heap.size, 1, none⟩ = some (.int .i64 x1) := by simp [World.cell?, hk6]
        have g2 : w6.cell? ⟨w.heap.size, 2, none⟩ = some (.int .i64 x2) := by simp [World.cell?, hk6]
        have g3 : w6.cell? ⟨w.heap.size, 3, none⟩ = some (.int .i64 x3) := by simp [World.cell?, hk6]
        clear hk6
        go_wp2_with fail
        refine (jt_crash J6 x0 x1 x2 x3).mono ?_; rintro e w7 ⟨rfl, J7, b7⟩
        have B7 := B6.trans b7
        clear b7 B6 J6 g0 g1 g2 g3
        go_wp2_with fail
        refine (jt_open0 J7 tells_none (by decide) HOK.out (by omega)).mono ?_; rintro e w8 ⟨jb2, rfl, O8, J8, b8⟩
        have B8 := B7.trans b8
        clear b8 B7 J7
        go_wp2_with fail
        refine (jt_read0 J8).mono ?_; rintro e w9 ⟨rfl, J9, b9, d9, T9⟩
        have B9 := B8.trans b9
        have O9 := O8.turn T9
        clear b9 B8 J8 T9 O8
        go_wp2_with fail
        refine (jt_read1 J9).mono ?_; rintro e w10 ⟨rfl, J10, b10, d10, T10⟩
        have B10 := B9.trans b10
        have O10 := O9.turn T10
        clear b10 B9 J9 T10 O9
        go_wp2_with fail
        refine (op_state O10).mono ?_; rintro e w11 ⟨rfl, rfl⟩
        go_wp2_with fail
        refine (jt_state J10).mono ?_; rintro e w11 ⟨rfl, rfl⟩
        go_wp2_with fail
        refine (op_cmds O10 (by omega)).mono ?_; rintro e w12 ⟨v12, rfl, r12, b12⟩
        obtain ⟨A12, c12, rfl⟩ := Kd.R_slice r12
        have O12 := O10.later b12
        have J12 := J10.later b12
        have B12 := B10.trans (b12.mono B10.size)
        clear b12 B10 O10 J10
        go_wp2_with fail
        refine (jt_cmds J12 (by omega)).mono ?_; rintro e w13 ⟨v13, rfl, r13, b13⟩
        obtain ⟨A13, c13, rfl⟩ := Kd.R_slice r13
        have O13 := O12.later b13
        have J13 := J12.later b13
        have B13 := B12.trans (b13.mono B12.size)
        have q12 := Kd.R_reads' (Kd.R_below r12 b13)
        have q13 := Kd.R_reads' r13
        have X := texts_any A12 c12 m A13 c13 m w13 q12.2.2 q12.2.1 q13.2.2 q13.2.1 (by omega)
        rw [show decide (m = m) = true from decide_eq_true rfl] at X
        clear b13 B12 O12 J12 r12 r13 q12 q13
        go_wp2_with fail
        refine X.mono ?_; rintro e w14 ⟨rfl, n14, rfl⟩
        have HB13 := Lib.hid B13
        have O14 := O13.drewN n14
        have J14 := J13.drewN n14
        have B14 := B13.trans (drewB _ w13 n14)
        clear X O13 B13
        go_wp2_with fail
        refine (op_seq O14 (by omega) (by omega)).mono ?_; rintro e w15 ⟨rfl, n15, rfl⟩
        have J15 := J13.drewN (n14 + n15)
        have B15 := HB13.out.trans (drewB _ w13 (n14 + n15))
        clear O14 J14 B14 J13
        go_wp2_with fail
        refine (jt_seq J15 (by omega) (by omega)).mono ?_; rintro e w16 ⟨rfl, n16, rfl⟩
        have B16 := HB13.out.trans (drewB _ w13 (n14 + n15 + n16))
        clear J15 B15
        go_wp2_with fail
        refine (awake_any _).mono ?_; rintro e w17 ⟨rfl, b17⟩
        go_wp2
        go_ret
        exact ⟨rfl, HB1.out.trans ((B16.trans (b17.mono B16.size)).mono (Nat.le_of_lt hw1))⟩
theorem small_all (A : Option Addr) (c : Nat) (l : List ByteArray) (hc : l.length ≤ c) (hs : ∀ s ∈ l, s.size ≤ 140737488351232) :
    ∃ b, (b = true → Facts.laid l ≤ 21200) ∧ ∀ w, Kd.C Kd.string w A l.length l → Calls Try.prog 20 #[.slice A l.length c] w fun e w' => e = .returned (.bool b) ∧ ∃ n, w' = w.drewN n := by
  obtain ⟨b, h1, h2⟩ := Facts.Small_ev l hs
  obtain ⟨k, hk⟩ := h1.rounds
  exact ⟨b, h2, fun w hC => (F.lombardref07_Small.calls k A c l b w hC hc hk).mono fun e w' h => ⟨h.1, h.2.out⟩⟩
theorem Again_any (st : ByteArray) (A : Option Addr) (c : Nat) (l : List ByteArray) (x0 x1 x2 x3 : Int) (w : World) (hs : st.size ≤ 140737488351232) (hC : Kd.C Kd.string w A l.length l) (hc : l.length ≤ c) (hl : ∀ s ∈ l, s.size ≤ 140737488351232) :
    Calls Try.prog 14 #[.string st, .slice A l.length c, .agg #[.int .i64 x0, .int .i64 x1, .int .i64 x2, .int .i64 x3]] w fun e w' => e = .returned (.bool true) ∧ Below w.heap.size w w' := by
  by_cases hb : 9000 < st.size
  · exact again_big st A c l x0 x1 x2 x3 w hs hb
  · obtain ⟨b, h1, h2⟩ := small_all A c l hc hl
    cases b with
    | false => exact again_not st A c l x0 x1 x2 x3 w hb (fun w' hb' => h2 w' (Kd.C_below hC hb'))
    | true => exact again_go st A c l x0 x1 x2 x3 w hb hC hc (h1 rfl) (fun w' hb' => h2 w' (Kd.C_below hC hb'))
end Go.Proofs.Ytejfdiiennnjjaa.J
namespace Go.Proofs.Ytejfdiiennnjjaa.J
open Go.RowKit Go.Proofs Go.Proofs.Ytejfdiiennnjjaa Go.Proofs.YtejfdiiennnjjaaW.PrintWords Go.Proofs.YtejfdiiennnjjaaW.PrintLast Go.Proofs.YtejfdiiennnjjaaW.PrintMore Go.Proofs.Ytejfdiiennnjjaa.D
set_option linter.unusedVariables false

/-- A journal with power, its blocks among F. -/
def Jf (jb db : Nat) (F : Nat → Prop) (f : Int) (g q : Nat) (st : ByteArray) (l : List ByteArray) (A C : ByteArray) (B : Nat) (w : World) : Prop :=
  (∀ k, F k → B ≤ k ∧ k < w.heap.size) ∧ F db ∧ ∃ j d, Ko jb j l d B w ∧ (∀ k, ft jb j k → F k) ∧ j.db = db ∧ j.file = f ∧ j.gen = (g : Int) ∧ j.seq = (q : Int) ∧ j.state = st ∧ j.dead = false ∧ Two d A C
section
variable {jb db B g q : Nat} {st : ByteArray} {l : List ByteArray} {A C : ByteArray} {w w' : World} {f : Int} {F : Nat → Prop}
theorem Jt.jf (h : Jt jb db f g q st l A C B w) : Jf jb db (fun k => B ≤ k ∧ k < w.heap.size) f g q st l A C B w := by
  obtain ⟨j, d, J, rfl, e2, e3, e4, e5, e6, t⟩ := h.ex
  exact ⟨fun k hk => hk, J.ko.lt _ (.inr (.inl rfl)), j, d, J.ko, J.ko.lt, rfl, e2, e3, e4, e5, e6, t⟩
theorem Jf.step (h : Jf jb db F f g q st l A C B w) (hz : w.heap.size ≤ w'.heap.size) (hm : ∀ k, F k → k < w.heap.size → w'.heap[k]? = w.heap[k]?) : Jf jb db F f g q st l A C B w' := by
  obtain ⟨h1, h2, j, d, J, hF, r⟩ := h
  exact ⟨fun k hk => ⟨(h1 k hk).1, Nat.lt_of_lt_of_le (h1 k hk).2 hz⟩, h2, j, d, J.step hz (fun k hk hl => hm k (hF k hk) hl), hF, r⟩
theorem Jf.lt (h : Jf jb db F f g q st l A C B w) : ∀ k, F k → B ≤ k ∧ k < w.heap.size := h.1
theorem Jf.le (h : Jf jb db F f g q st l A C B w) : B ≤ w.heap.size := by have := h.1 db h.2.1; omega
theorem jf_add1 (h : Jf jb db F 1 g q st l A C B w) (cmd : ByteArray) (hs : cmd.size ≤ 4096) (hl : l.length ≤ 1000000000) (hz : C.size + cmd.size + 12 ≤ 1048576) :
    Calls Try.prog 44 #[.pointer (some ⟨jb, 0, none⟩), .string cmd] w fun e w' => e = .returned (.int .i64 0) ∧ Jf jb db (grow F w w') 1 g q st (l ++ [cmd]) A (C ++ rec1 cmd) B w' ∧ Tread F w w' (grow F w w') := by
  obtain ⟨h1, h2, j, d, J, hF, rfl, e2, e3, e4, e5, e6, t⟩ := h
  obtain ⟨a0, y0, t2⟩ := t.app1 (rec1 cmd) (by rw [rec1_size]; omega)
  have R := ko_add jb B j l d cmd w J t.fits e6 hs hl (by rw [e2]; exact a0) (by rw [e2]; exact y0)
  rw [e2] at R
  refine R.mono fun e w' ⟨he, cv', J', T⟩ => ⟨he, ⟨?_, .inl h2, _, _, J', ?_, rfl, rfl, e3, e4, e5, e6, t2⟩, (T.less hF (fun _ h => h)).grow⟩
  · intro k hk
    rcases hk with c | c
    · exact ⟨(h1 k c).1, Nat.lt_of_lt_of_le (h1 k c).2 T.size⟩
    · exact ⟨by have := J.le; omega, c.2⟩
  · intro k hk
    rcases T.foot k hk with c | c
    · exact .inl (hF k c)
    · exact .inr ⟨c, (J'.lt k hk).2⟩
set_option maxRecDepth 100000 in
theorem jf_add_big (h : Jf jb db F f g q st l A C B w) (cmd : ByteArray) (hs : 4096 < cmd.size) (hm : cmd.size ≤ 140737488355328) :
    Calls Try.prog 44 #[.pointer (some ⟨jb, 0, none⟩), .string cmd] w fun e w' => e = .returned (.int .i64 2) ∧ w' = w := by
  obtain ⟨h1, h2, j, d, J, hF, rfl, e2, e3, e4, e5, e6, t⟩ := h
  have R := ready_any jb j w J.jn
  unfold jrdy at R
  rw [e6, if_neg (by simp)] at R
  go_enter Try.func44, Try.ntmps44
  go_wp2_with fail
  refine R.mono ?_; rintro e w1 ⟨rfl, rfl⟩
  go_wp2_with fail
  go_ret
  exact ⟨rfl, rfl⟩
theorem jf_disk (h : Jf jb db F f g q st l A C B w) : ∃ d, D.Is db d w ∧ Two d A C := by
  obtain ⟨h1, h2, j, d, J, hF, rfl, e2, e3, e4, e5, e6, t⟩ := h
  exact ⟨d, J.dk, t⟩
theorem two_crash {d : Dk} (h : D.Is db d w) (t : Two d A C) (k0 k1 k2 k3 : Int) : Calls Try.prog 37 #[.pointer (some ⟨db, 0, none⟩), .agg #[.int .i64 k0, .int .i64 k1, .int .i64 k2, .int .i64 k3]] w fun e w' => e = .returned (.tuple #[]) ∧ ∃ d', D.Turn db d' w w' ∧ Two d' A C := by
  obtain ⟨c1, c2, c3⟩ := t.lie0.crash k0 k1 k2 k3
  rw [keep_none, keep_none] at c1
  exact (D.Crash_made db d k0 k1 k2 k3 w h t.fits t.made).mono fun e w' ⟨he, T⟩ => ⟨he, _, T, two_of0 c1 c2 c3⟩
theorem two_open1 {d : Dk} {g' q' : Nat} {st' : ByteArray} {o : Option Fd} (h : D.Is db d w) (t : Two d A (cont g' q' st' l)) (ty : Tells A o) (ho : gO o < g') (hl : Facts.okAll l = true) (h1 : 1 ≤ g') (h2 : g' ≤ 1000000000) (h3 : q' ≤ 1000000000) (hn : (chunks st').length + l.length ≤ 1000000) :
    Calls Try.prog 50 #[.pointer (some ⟨db, 0, none⟩)] w fun e w' => ∃ jb2, e = .returned (.tuple #[.pointer (some ⟨jb2, 0, none⟩), .int .i64 0]) ∧ Opened jb2 db q' st' l db w' ∧ ∃ d', D.Turn db d' w w' := by
  obtain ⟨s1, s2, s3, s4⟩ := t.lie1.syn_go t.dead (by rw [t.left]; decide)
  refine (open_any db d d 1 _ _ _ o w h t.dead t.lie1 (tells_cont g' q' st' l hl h1 h2 h3 hn) ty ho (.inl ⟨rfl, rfl⟩) (.inl s1)).mono fun e w' hp => ?_
  rcases hp with ⟨_, jb2, A2, c2, he, J2, T, _⟩ | ⟨h13, _⟩
  · exact ⟨jb2, he, ⟨_, J2.jn, J2.ne, J2.cm, rfl, rfl⟩, _, T⟩
  · omega
end
theorem row_tread {F : Nat → Prop} {w w' : World} {B : Nat} {v : Value} {l : List ByteArray} (r : Kd.R Kd.string 9 w B (fun b => ¬ F b) v l) (T : Tread F w w' (grow F w w')) : Kd.R Kd.string 9 w' B (fun b => ¬ grow F w w' b) v l :=
  Kd.R_mono (Kd.R_step (Kd.R_bound r) (fun k hk hl => T.block k hl hk.1)) (fun k hk c => by
    rcases c with c | c
    · exact hk.1 c
    · have := hk.2.2.1; omega)
def beg : ByteArray := ⟨#[98, 101, 103, 105, 110]⟩
set_option maxRecDepth 100000 in
set_option maxHeartbeats 8000000 in
theorem turns_big (A : Option Addr) (c : Nat) (l : List ByteArray) (st : ByteArray) (A2 : Option Addr) (c2 : Nat) (l2 : List ByteArray) (w : World) (hs : st.size ≤ 140737488351232) (hb : 20000 < st.size) :
    Calls Try.prog 15 #[.slice A l.length c, .string st, .slice A2 l2.length c2] w fun e w' => e = .returned (.bool true) ∧ Below w.heap.size w w' := by
  go_enter Try.func15, Try.ntmps15
  go_wp2_with fail
  refine (awake_any _).mono ?_; rintro e w5 ⟨rfl, b5⟩
  go_wp2
  go_ret
  exact ⟨rfl, b5⟩
set_option maxRecDepth 100000 in
set_option maxHeartbeats 8000000 in
theorem turns_not (A : Option Addr) (c : Nat) (l : List ByteArray) (st : ByteArray) (A2 : Option Addr) (c2 : Nat) (l2 : List ByteArray) (w : World) (hb : ¬ 20000 < st.size)
    (hS : ∀ n, Calls Try.prog 20 #[.slice A l.length c] (w.drewN n) fun e w'' => e = .returned (.bool false) ∧ ∃ m, w'' = (w.drewN n).drewN m) :
    Calls Try.prog 15 #[.slice A l.length c, .string st, .slice A2 l2.length c2] w fun e w' => e = .returned (.bool true) ∧ Below w.heap.size w w' := by
  have S := hS 0
  rw [show w.drewN 0 = w from rfl] at S
  clear hS
  go_enter Try.func15, Try.ntmps15
  go_wp2_with fail
  refine S.mono ?_; rintro e w1 ⟨rfl, n1, rfl⟩
  go_wp2_with fail
  refine (awake_any _).mono ?_; rintro e w5 ⟨rfl, b5⟩
  go_wp2
  go_ret
  exact ⟨rfl, (drewB _ w n1).trans b5⟩
set_option maxRecDepth 100000 in
set_option maxHeartbeats 8000000 in
theorem turns_not2 (A : Option Addr) (c : Nat) (l : List ByteArray) (st : ByteArray) (A2 : Option Addr) (c2 : Nat) (l2 : List ByteArray) (w : World) (hb : ¬ 20000 < st.size)
    (hS : ∀ n, Calls Try.prog 20 #[.slice A l.length c] (w.drewN n) fun e w'' => e = .returned (.bool true) ∧ ∃ m, w'' = (w.drewN n).drewN m)
    (hS2 : ∀ n, Calls Try.prog 20 #[.slice A2 l2.length c2] (w.drewN n) fun e w'' => e = .returned (.bool false) ∧ ∃ m, w'' = (w.drewN n).drewN m) :
    Calls Try.prog 15 #[.slice A l.length c, .string st, .slice A2 l2.length c2] w fun e w' => e = .returned (.bool true) ∧ Below w.heap.size w w' := by
  have S := hS 0
  rw [show w.drewN 0 = w from rfl] at S
  clear hS
  go_enter Try.func15, Try.ntmps15
  go_wp2_with fail
  refine S.mono ?_; rintro e w1 ⟨rfl, n1, rfl⟩
  go_wp2_with fail
  refine (hS2 n1).mono ?_; rintro e w1 ⟨rfl, n2, rfl⟩
  go_wp2_with fail
  refine (awake_any _).mono ?_; rintro e w5 ⟨rfl, b5⟩
  go_wp2
  go_ret
  exact ⟨rfl, (drewB _ w (n1 + n2)).trans b5⟩
set_option maxRecDepth 100000 in
set_option maxHeartbeats 32000000 in
theorem turns_go (A : Option Addr) (c : Nat) (l : List ByteArray) (st : ByteArray) (A2 : Option Addr) (c2 : Nat) (l2 : List ByteArray) (w : World) (hb : ¬ 20000 < st.size)
    (hC : Kd.C Kd.string w A l.length l) (hlc : l.length ≤ c) (hL : Facts.laid l ≤ 21200) (hC2 : Kd.C Kd.string w A2 l2.length l2) (hlc2 : l2.length ≤ c2) (hL2 : Facts.laid l2 ≤ 21200)
    (hS : ∀ n, Calls Try.prog 20 #[.slice A l.length c] (w.drewN n) fun e w'' => e = .returned (.bool true) ∧ ∃ m, w'' = (w.drewN n).drewN m)
    (hS2 : ∀ n, Calls Try.prog 20 #[.slice A2 l2.length c2] (w.drewN n) fun e w'' => e = .returned (.bool true) ∧ ∃ m, w'' = (w.drewN n).drewN m) :
    Calls Try.prog 15 #[.slice A l.length c, .string st, .slice A2 l2.length c2] w fun e w' => e = .returned (.bool true) ∧ Below w.heap.size w w' := by
  have S := hS 0
  rw [show w.drewN 0 = w from rfl] at S
  clear hS
  have hll := laid_len l
  have hll2 := laid_len l2
  have zb : beg.size = 5 := rfl
  have z0 := lay_bound 1 0 beg (by omega)
  have y1 := chunks_few beg
  go_enter Try.func15, Try.ntmps15
  go_wp2_with fail
  refine S.mono ?_; rintro e w1 ⟨rfl, n1, rfl⟩
  go_wp2_with fail
  refine (hS2 n1).mono ?_; rintro e w1 ⟨rfl, n2, rfl⟩
  clear S hS2
  have hB1 : Below w.heap.size w ((w.drewN n1).drewN n2) := (drewB _ w n1).trans (drewB _ _ n2)
  have hz1 : ((w.drewN n1).drewN n2).heap.size = w.heap.size := rfl
  generalize (w.drewN n1).drewN n2 = w1 at *
  have HB1 := Lib.hid hB1
  have HZ1 := Lib.hid hz1
  have HC := Lib.hid hC
  have HC2 := Lib.hid hC2
  clear hB1 hz1 hC hC2
  go_wp2_with fail
  refine (D.New_any w1).mono ?_; rintro e w2 ⟨rfl, h2, b2⟩
  go_wp2_with fail
  refine (jt_format w1.heap.size beg w2 h2 (by omega) (by omega)).mono ?_; rintro e w3 ⟨jb, rfl, j3, b3⟩
  have B3 := b2.trans b3
  have HB3 := Lib.hid B3
  clear b2 b3 h2 B3
  go_wp2_with fail
  go_loopw [10, 11] (fun n i wr => ∃ k : Nat, k ≤ l.length ∧ i = .int .i64 (k : Int) ∧ n = .int .i64 ((acc (l.take k)).length : Int) ∧ Jt jb w1.heap.size 0 1 0 beg (acc (l.take k)) (cont 1 0 beg (acc (l.take k))) ⟨#[]⟩ w1.heap.size wr ∧ Below w1.heap.size w1 wr) (fun n i _ => l.length - (intOf i).toNat)
  case atStart => exact ⟨0, Nat.zero_le _, rfl, rfl, by show Jt jb _ 0 1 0 beg [] (cont 1 0 beg []) _ _ _; rw [cont_nil]; exact j3, HB3.out⟩
  case round =>
    obtain ⟨k, hkl, rfl, rfl, J, B⟩ := hrel
    by_cases hlt : k < l.length
    · have hC := Kd.C_below HC.out (HB1.out.trans (B.mono (Nat.le_of_eq HZ1.out.symm)))
      obtain ⟨ad, hA, hc⟩ := Kd.at_string hC (k : Int) (by omega) (by omega)
      have e : rdOf ByteArray.empty l (k : Int) = l[k] := by
        unfold rdOf
        rw [Int.toNat_natCast, List.getD_eq_getElem?_getD, List.getElem?_eq_getElem hlt, Option.getD_some]
      rw [e, Int.toNat_natCast] at hc
      subst hA
      have HB := Lib.hid B
      have a1 := acc_succ l k hlt
      have a2 := acc_laid (l.take k)
      have a3 := laid_take l k
      have a4 := cont_size 1 0 beg (acc (l.take k))
      have a6 := laid_succ l k hlt
      have a7 : (l.take k).length ≤ k := by rw [List.length_take]; omega
      have a8 : (acc (l.take k)).length ≤ 2000 := by omega
      by_cases hs : l[k].size ≤ 4096
      · rw [if_pos hs] at a1
        have R := jt_add0 J l[k] hs (by omega) (by omega)
        rw [show cont 1 0 beg (acc (l.take k)) ++ rec1 l[k] = cont 1 0 beg (acc (l.take k) ++ [l[k]]) from cont_add 1 0 beg _ _, ← a1] at R
        have a9 : (acc (l.take (k + 1))).length = (acc (l.take k)).length + 1 := by rw [a1]; simp
        have HA9 := Lib.hid a9
        clear hC e J B a1 a2 a3 a4 a6 a9
        go_wp2_with fail
        refine R.mono ?_; rintro e w5 ⟨rfl, J5, b5⟩
        clear R
        have B5 := HB.out.trans b5
        clear b5
        go_wp2_with fail
        go_roundw
        case rel => exact ⟨k + 1, by omega, by go_num, by rw [HA9.out]; go_num, J5, B5⟩
        case measure => simp [intOf]; omega
      · rw [if_neg hs] at a1
        have R := jt_add_big J l[k] (by omega) (by omega)
        rw [← a1] at J
        have HA1 := Lib.hid a1
        have HJ := Lib.hid J
        clear hC e J B a1 a2 a3 a4 a6
        go_wp2_with fail
        refine R.mono ?_; rintro e w5 ⟨rfl, rfl⟩
        clear R
        go_wp2_with fail
        go_roundw
        case rel => exact ⟨k + 1, by omega, by go_num, by rw [HA1.out], HJ.out, HB.out⟩
        case measure => simp [intOf]; omega
    · obtain rfl : k = l.length := by omega
      rw [List.take_length] at J
      have a2 := acc_laid l
      have a4 := laid_len (acc l)
      have aok := acc_ok l
      have hml : (acc l).length ≤ 2000 := by omega
      have a5 := tells_cont 1 0 beg (acc l) aok (by omega) (by omega) (by omega) (by omega)
      have z1 := lay_bound 2 (0 + (acc l).length) st (by omega)
      have HT := Lib.hid a5
      have HB := Lib.hid B
      clear a5 aok a2 a4 B j3
      rw [show (acc (l.take l.length)).length = (acc l).length by rw [List.take_length]]
      generalize acc l = M at *
      go_wp2_with fail
      refine (jt_turn0 J st (by omega) (by omega) (by omega) (by omega) (by show (lay 2 (0 + M.length) st).size ≤ _; omega)).mono ?_; rintro e w5 ⟨rfl, J5, b5⟩
      have B5 := HB.out.trans b5
      clear b5 J
      go_wp2_with fail
      refine (jt_seq J5 (by omega) (by simp)).mono ?_; rintro e w6 ⟨rfl, n6, rfl⟩
      have J6 := J5.drewN n6
      have B6 := B5.trans (drewB _ w5 n6)
      clear J5 B5
      go_wp2_with fail
      refine (jt_cmds J6 (by simp)).mono ?_; rintro e w7 ⟨v7, rfl, r7, b7⟩
      obtain ⟨A7, c7, rfl⟩ := Kd.R_slice r7
      have J7 := J6.later b7
      have B7 := B6.trans (b7.mono B6.size)
      clear b7 B6 J6 r7
      have HB7 := Lib.hid B7
      clear B7
      go_wp2_with fail
      have HM := Lib.hid hml
      have J8 := J7.jf
      go_loopw [12, 13] (fun lv i wr => ∃ (k : Nat) (F : Nat → Prop), k ≤ l2.length ∧ i = .int .i64 (k : Int) ∧ Kd.R Kd.string 9 wr w1.heap.size (fun b => ¬ F b) lv (acc (l2.take k)) ∧ Jf jb w1.heap.size F 1 2 (0 + M.length) st (acc (l2.take k)) (cont 1 0 beg M) (cont 2 (0 + M.length) st (acc (l2.take k))) w1.heap.size wr ∧ Below w1.heap.size w1 wr) (fun lv i _ => l2.length - (intOf i).toNat)
      case atStart => exact ⟨0, _, Nat.zero_le _, rfl, Kd.R_nil _ _ _ _ _, by show Jf jb _ _ 1 2 (0 + M.length) st [] _ (cont 2 (0 + M.length) st []) _ _; rw [cont_nil]; exact J8, HB7.out⟩
      case round =>
        obtain ⟨k, F, hkl, rfl, r, J, B⟩ := hrel
        obtain ⟨A9, c9, rfl⟩ := Kd.R_slice r
        by_cases hlt : k < l2.length
        · have hC := Kd.C_below HC2.out (HB1.out.trans (B.mono (Nat.le_of_eq HZ1.out.symm)))
          obtain ⟨ad, hA, hc⟩ := Kd.at_string hC (k : Int) (by omega) (by omega)
          have e : rdOf ByteArray.empty l2 (k : Int) = l2[k] := by
            unfold rdOf
            rw [Int.toNat_natCast, List.getD_eq_getElem?_getD, List.getElem?_eq_getElem hlt, Option.getD_some]
          rw [e, Int.toNat_natCast] at hc
          subst hA
          have had := World.block_lt_of_cell? wr _ hc
          have HB := Lib.hid B
          have a1 := acc_succ l2 k hlt
          have a2 := acc_laid (l2.take k)
          have a3 := laid_take l2 k
          have a4 := cont_size 2 (0 + M.length) st (acc (l2.take k))
          have a6 := laid_succ l2 k hlt
          have a7 : (l2.take k).length ≤ k := by rw [List.length_take]; omega
          have a8 : (acc (l2.take k)).length ≤ 2000 := by omega
          by_cases hs : l2[k].size ≤ 4096
          · rw [if_pos hs] at a1
            have R := jf_add1 J l2[k] hs (by omega) (by omega)
            rw [show cont 2 (0 + M.length) st (acc (l2.take k)) ++ rec1 l2[k] = cont 2 (0 + M.length) st (acc (l2.take k) ++ [l2[k]]) from cont_add 2 _ st _ _] at R
            have HA9 := Lib.hid a1
            have Hr := Lib.hid r
            have HCC := Lib.hid HC2.out
            have HJ := Lib.hid J
            clear hC e J B a1 a2 a3 a4 a6 r had
            go_wp2_with fail
            refine R.mono ?_; rintro e w9 ⟨rfl, J9, T9⟩
            clear R
            have hs9 := HJ.out.le
            have b9 : Below w1.heap.size wr w9 := T9.toBelow (fun k hk => (HJ.out.lt k hk).1) hs9
            have B9 := HB.out.trans b9
            have hC9 := Kd.C_below HC2.out (HB1.out.trans (B9.mono (Nat.le_of_eq HZ1.out.symm)))
            obtain ⟨ad9, hA9, hc9⟩ := Kd.at_string hC9 (k : Int) (by omega) (by omega)
            have e9 : rdOf ByteArray.empty l2 (k : Int) = l2[k] := by
              unfold rdOf
              rw [Int.toNat_natCast, List.getD_eq_getElem?_getD, List.getElem?_eq_getElem hlt, Option.getD_some]
            rw [e9, Int.toNat_natCast] at hc9
            obtain rfl := Option.some.inj hA9
            have r9 := row_tread Hr.out T9
            generalize grow F wr w9 = F9 at *
            have HF9 := Lib.hid (fun b hb => J9.lt b hb : ∀ b, F9 b → w1.heap.size ≤ b ∧ b < w9.heap.size)
            have HR9 := Lib.hid r9
            have HJ9 := Lib.hid J9
            have HB9 := Lib.hid B9
            clear hs9 b9 B9 hC9 e9 r9 J9 T9 hc
            go_wp2_with (first
              | ((with_reducible refine gate_builtin (b := .append) (xs := #[.tmp 82, .tmp 87]) rfl ?_); at_builtin
                 refine Kd.R_append Kd.string (w0 := w1) w1.heap.size rfl (.tmp 82) (.tmp 87) 32 9 (.string ⟨#[]⟩) 16 rfl Try.underlying32 info9 rfl (by decide) (by omega) (.slice A9 (acc (l2.take k)).length c9) (acc (l2.take k)) l2[k] [.string l2[k]] (fun b => ¬ F9 b) (fun _ => False) rfl rfl ?aP (fun _ hk => hk.elim) ?aF ?aO ?aB ?aS ?aL ?_
                 (case aP => exact rfl)
                 (case aB => exact HB9.out)
                 (case aF => exact (fun b hb c => by have := HF9.out b c; omega))
                 (case aO => exact HR9.out)
                 (case aS => exact HB9.out.size)
                 (case aL => omega)
                 intro v10 w10 ho hb hg hat
                 have J10 := HJ9.out.step hg.size (fun b hb hl => hg.block b hl (fun c => HR9.out.1 b c.symm hb))
                 rw [← HA9.out] at ho J10
                 have N1 := Lib.hid ho
                 have N2 := Lib.hid hb
                 have N3 := Lib.hid J10
                 clear ho hb hg hat J10))
            go_roundw
            case rel => exact ⟨k + 1, F9, by omega, by go_num, N1.out, N3.out, N2.out⟩
            case measure => simp [intOf]; omega
          · rw [if_neg hs] at a1
            have R := jf_add_big J l2[k] (by omega) (by omega)
            have r2 : Kd.R Kd.string 9 wr w1.heap.size (fun b => ¬ F b) (.slice A9 (acc (l2.take k)).length c9) (acc (l2.take (k + 1))) := by rw [a1]; exact r
            rw [← a1] at J
            have HJ := Lib.hid J
            have Hr := Lib.hid r2
            clear hC e J B a1 a2 a3 a4 a6 r r2
            go_wp2_with fail
            refine R.mono ?_; rintro e w9 ⟨rfl, rfl⟩
            clear R
            go_wp2_with fail
            go_roundw
            case rel => exact ⟨k + 1, F, by omega, by go_num, Hr.out, HJ.out, HB.out⟩
            case measure => simp [intOf]; omega
        · obtain rfl : k = l2.length := by omega
          rw [List.take_length] at J r
          have htl : (acc (l2.take l2.length)).length = (acc l2).length := by rw [List.take_length]
          rw [htl]
          have a2 := acc_laid l2
          have a4 := laid_len (acc l2)
          have aok := acc_ok l2
          have hml2 : (acc l2).length ≤ 2000 := by omega
          have y2 := chunks_few st
          obtain ⟨d10, D10, t10⟩ := jf_disk J
          have hdb : F w1.heap.size := J.2.1
          have r10 := Kd.R_mono (ok' := fun b => b ≠ w1.heap.size) r (fun b hb c => hb (c ▸ hdb))
          have hsz := B.size
          have HOK := Lib.hid aok
          have HB := Lib.hid B
          clear a2 a4 aok J r hdb J7 J8 htl B
          generalize acc l2 = M2 at *
          go_wp2_with fail
          refine (two_crash D10 t10 0 0 0 0).mono ?_; rintro e w11 ⟨rfl, d11, T11, t11⟩
          have B11 := HB.out.trans (T11.below _ (Nat.le_refl _))
          have r11 := Kd.R_step r10 (fun k hk hl => T11.others k hl hk)
          have D11 := T11.is
          clear T11 r10 D10 t10
          go_wp2_with fail
          refine (two_open1 D11 t11 HT.out (by show 1 < 2; omega) HOK.out (by omega) (by omega) (by omega) (by omega)).mono ?_; rintro e w12 ⟨jb2, rfl, O12, d12, T12⟩
          have B12 := B11.trans (T12.below _ (Nat.le_refl _))
          have r12 := Kd.R_step r11 (fun k hk hl => T12.others k hl hk)
          clear T12 r11 D11 t11 B11
          go_wp2_with fail
          refine (op_state O12).mono ?_; rintro e w13 ⟨rfl, rfl⟩
          go_wp2_with fail
          refine (op_cmds O12 (by omega)).mono ?_; rintro e w14 ⟨v14, rfl, r14, b14⟩
          obtain ⟨A14, c14, rfl⟩ := Kd.R_slice r14
          have O14 := O12.later b14
          have B14 := B12.trans (b14.mono B12.size)
          have q12 := Kd.R_reads' (Kd.R_below r12 b14)
          have q14 := Kd.R_reads' r14
          have X := texts_any A14 c14 M2 A9 c9 M2 w14 q14.2.2 q14.2.1 q12.2.2 q12.2.1 (by omega)
          rw [show decide (M2 = M2) = true from decide_eq_true rfl] at X
          clear b14 B12 O12 r12 r14 q12 q14
          go_wp2_with fail
          refine X.mono ?_; rintro e w15 ⟨rfl, n15, rfl⟩
          have O15 := O14.drewN n15
          have HB14 := Lib.hid B14
          clear X O14 B14
          go_wp2_with fail
          refine (op_seq O15 (by omega) (by omega)).mono ?_; rintro e w16 ⟨rfl, n16, rfl⟩
          have B16 := HB14.out.trans (drewB _ w14 (n15 + n16))
          clear O15
          go_wp2_with fail
          refine (awake_any _).mono ?_; rintro e w17 ⟨rfl, b17⟩
          go_wp2
          go_ret
          exact ⟨rfl, HB1.out.trans ((B16.trans (b17.mono B16.size)).mono (Nat.le_of_eq HZ1.out.symm))⟩
theorem Turns_any (A : Option Addr) (c : Nat) (l : List ByteArray) (st : ByteArray) (A2 : Option Addr) (c2 : Nat) (l2 : List ByteArray) (w : World) (hs : st.size ≤ 140737488351232) (hC : Kd.C Kd.string w A l.length l) (hc : l.length ≤ c) (hl : ∀ s ∈ l, s.size ≤ 140737488351232)
    (hC2 : Kd.C Kd.string w A2 l2.length l2) (hc2 : l2.length ≤ c2) (hl2 : ∀ s ∈ l2, s.size ≤ 140737488351232) :
    Calls Try.prog 15 #[.slice A l.length c, .string st, .slice A2 l2.length c2] w fun e w' => e = .returned (.bool true) ∧ Below w.heap.size w w' := by
  by_cases hb : 20000 < st.size
  · exact turns_big A c l st A2 c2 l2 w hs hb
  · obtain ⟨b, h1, h2⟩ := small_all A c l hc hl
    obtain ⟨b', h1', h2'⟩ := small_all A2 c2 l2 hc2 hl2
    have S := fun n => h2 (w.drewN n) (Kd.C_below hC (drewB _ w n))
    have S' := fun n => h2' (w.drewN n) (Kd.C_below hC2 (drewB _ w n))
    cases b with
    | false => exact turns_not A c l st A2 c2 l2 w hb S
    | true =>
      cases b' with
      | false => exact turns_not2 A c l st A2 c2 l2 w hb S S'
      | true => exact turns_go A c l st A2 c2 l2 w hb hC hc (h1 rfl) hC2 hc2 (h1' rfl) S S'
end Go.Proofs.Ytejfdiiennnjjaa.J
namespace Go.Proofs.Ytejfdiiennnjjaa
open Go.ChangeShapes Go.WideShapes Go.RowKit
set_option linter.unusedVariables false
theorem arr_types : Try.prog.cellTypes Try.prog.depth 59 = some [3, 3, 3, 3] := by kernel_rfl
theorem arr_size : Try.prog.cellsOf 59 = 4 := by kernel_rfl
theorem open_arr_of {P : Program} {W : World} {r : Reach} {base : Nat} {v : Value} (hu : P.underlying 59 = some (.array 4 3)) (hi : P.underlying 3 = some (.int .i64))
    (arr_types : P.cellTypes P.depth 59 = some [3, 3, 3, 3]) (arr_size : P.cellsOf 59 = 4) (hv : Value.okWide P W r base 59 v) :
    ∃ (k0 k1 k2 k3 : Int), v = .agg #[.int .i64 k0, .int .i64 k1, .int .i64 k2, .int .i64 k3] := by
  unfold Value.okWide at hv
  rw [hu] at hv
  obtain ⟨cs, rfl, hsz, ts, hts, _, hc⟩ := hv
  rw [arr_types] at hts
  obtain rfl := Option.some.inj hts
  rw [arr_size] at hsz
  have g : ∀ i (h : i < 4) u, [3, 3, 3, 3][i % 4]? = some u → Cell.okWide P W r base u (cs[i]'(by omega)) := fun i h u hu' => by
    obtain ⟨u', e, h'⟩ := hc i _ (Array.getElem?_eq_getElem (by omega))
    obtain rfl := Option.some.inj (e.symm.trans hu')
    exact h'
  have h0 := g 0 (by omega) 3 rfl
  have h1 := g 1 (by omega) 3 rfl
  have h2 := g 2 (by omega) 3 rfl
  have h3 := g 3 (by omega) 3 rfl
  obtain ⟨k0, e0⟩ := cell_int hi h0
  obtain ⟨k1, e1⟩ := cell_int hi h1
  obtain ⟨k2, e2⟩ := cell_int hi h2
  obtain ⟨k3, e3⟩ := cell_int hi h3
  refine ⟨k0, k1, k2, k3, ?_⟩
  congr 1
  apply Array.ext
  · rw [hsz]; rfl
  · intro i hj hj'
    rw [hsz] at hj
    obtain rfl | rfl | rfl | rfl : i = 0 ∨ i = 1 ∨ i = 2 ∨ i = 3 := by omega
    · exact e0
    · exact e1
    · exact e2
    · exact e3
set_option maxRecDepth 100000 in
theorem open_arr {W : World} {r : Reach} {base : Nat} {v : Value} (hv : Value.okWide Try.prog W r base 59 v) : ∃ (k0 k1 k2 k3 : Int), v = .agg #[.int .i64 k0, .int .i64 k1, .int .i64 k2, .int .i64 k3] :=
  open_arr_of Try.underlying59 Try.underlying3 arr_types arr_size hv
end Go.Proofs.Ytejfdiiennnjjaa
