/- A disk on which a journal lies: what Format, Add and Turn make of its two files. A journal on a disk with power: Format, Add, Turn, State, Seq, Commands, each by one contract. The chapter's example of package journal: it comes to true. -/
import Derived.Test.YtejfdiiennnjjaaJc
import Derived.Test.YtejfdiiennnjjaaJe
namespace Go.Proofs.Ytejfdiiennnjjaa.J
open Go.RowKit Go.Proofs Go.Proofs.Ytejfdiiennnjjaa Go.Proofs.Ytejfdiiennnjjaa.D
set_option linter.unusedVariables false

/-- A disk with power, without a limit, whose first two files have that, all of it safe. -/
structure Two (d : Dk) (A B : ByteArray) : Prop where
  made : d.made = true
  dead : d.dead = false
  left : d.left = -1
  fits : d.Fits
  s0 : d.s0 = A
  l0 : d.l0 = ⟨#[]⟩
  s1 : d.s1 = B
  l1 : d.l1 = ⟨#[]⟩
theorem two_zero : Two zero ⟨#[]⟩ ⟨#[]⟩ := ⟨rfl, rfl, rfl, zero_fits, rfl, rfl, rfl, rfl⟩
theorem Two.rdy {d : Dk} {A B : ByteArray} (h : Two d A B) (i : Int) (h0 : 0 ≤ i) (h4 : i < 4) : rdy d i = 0 := by
  unfold D.rdy
  rw [if_neg (by rw [h.made]; simp), if_neg (by rw [h.dead]; simp), if_neg (by omega)]
theorem Two.use {d : Dk} {A B : ByteArray} (h : Two d A B) : useD d = d ∧ useN d = 0 := by
  have := h.left
  unfold useD useN
  rw [if_neg (by omega), if_neg (by omega), if_neg (by omega)]
  exact ⟨rfl, rfl⟩
theorem app_none (x : ByteArray) : (⟨#[]⟩ : ByteArray) ++ x = x := ByteArray.empty_append
theorem none_app (x : ByteArray) : x ++ (⟨#[]⟩ : ByteArray) = x := ByteArray.append_empty
theorem ext_none (x : ByteArray) : x.extract 0 (Int.toNat 0) = ⟨#[]⟩ := by
  apply ByteArray.ext
  simp

theorem Two.cut0 {d : Dk} {A B : ByteArray} (h : Two d A B) : cutN d 0 0 = 0 ∧ Two (cutD d 0 0) ⟨#[]⟩ B := by
  obtain ⟨u1, u2⟩ := h.use
  have hn : ¬ ((0 : Int) < 0 ∨ (d.len 0 : Int) < 0) := by omega
  have hf := cutD_fits h.fits 0 0
  have e : cutD d 0 0 = { d with s0 := ⟨#[]⟩, l0 := ⟨#[]⟩ } := by
    unfold cutD
    rw [h.rdy 0 (by omega) (by omega), if_neg (by simp), if_neg hn, if_neg (by rw [h.left]; omega), if_pos (by omega), u1, ext_none]
    rfl
  rw [e] at hf ⊢
  refine ⟨?_, h.made, h.dead, h.left, hf, rfl, rfl, h.s1, h.l1⟩
  unfold cutN
  rw [h.rdy 0 (by omega) (by omega), if_neg (by simp), if_neg hn, u2]
theorem Two.app0 {d : Dk} {A B : ByteArray} (h : Two d A B) (s : ByteArray) (hs : A.size + s.size ≤ 1048576) : appN d 0 s = 0 ∧ synN (appD d 0 s) 0 = 0 ∧ Two (synD (appD d 0 s) 0) (A ++ s) B := by
  obtain ⟨u1, u2⟩ := h.use
  have hl : d.len 0 = A.size := by
    show d.s0.size + d.l0.size = _
    rw [h.s0, h.l0, D.no_len, Nat.add_zero]
  have e : appD d 0 s = { d with l0 := s } := by
    unfold appD
    rw [h.rdy 0 (by omega) (by omega), if_neg (by simp), if_neg (by rw [hl]; omega), if_neg (by rw [h.left]; omega), u1]
    show { d with l0 := d.l0 ++ s } = _
    rw [h.l0, app_none]
  have hf1 := appD_fits h.fits 0 s
  have hf2 := synD_fits hf1 0
  rw [e] at hf1 hf2 ⊢
  have hr : D.rdy { d with l0 := s } 0 = 0 := by
    have q := h.rdy 0 (by omega) (by omega)
    unfold D.rdy at q ⊢
    exact q
  have hu : useD { d with l0 := s } = { d with l0 := s } ∧ useN { d with l0 := s } = 0 := by
    have := h.left
    unfold useD useN
    rw [if_neg (show ¬ d.left = 0 by omega), if_neg (show ¬ 0 < d.left by omega), if_neg (show ¬ d.left = 0 by omega)]
    exact ⟨rfl, rfl⟩
  have e2 : synD { d with l0 := s } 0 = { d with s0 := A ++ s, l0 := ⟨#[]⟩ } := by
    unfold synD
    rw [hr, if_neg (by simp), if_neg (show ¬ d.left = 0 by rw [h.left]; omega), hu.1]
    show { d with s0 := d.s0 ++ s, l0 := ⟨#[]⟩ } = _
    rw [h.s0]
  rw [e2] at hf2 ⊢
  refine ⟨?_, ?_, h.made, h.dead, h.left, hf2, rfl, rfl, h.s1, h.l1⟩
  · unfold appN
    rw [h.rdy 0 (by omega) (by omega), if_neg (by simp), if_neg (by rw [hl]; omega), u2]
  · unfold synN
    rw [hr, if_neg (by simp), hu.2]

theorem Two.cut1 {d : Dk} {A B : ByteArray} (h : Two d A B) : cutN d 1 0 = 0 ∧ Two (cutD d 1 0) A ⟨#[]⟩ := by
  obtain ⟨u1, u2⟩ := h.use
  have hn : ¬ ((0 : Int) < 0 ∨ (d.len 1 : Int) < 0) := by omega
  have hf := cutD_fits h.fits 1 0
  have e : cutD d 1 0 = { d with s1 := ⟨#[]⟩, l1 := ⟨#[]⟩ } := by
    unfold cutD
    rw [h.rdy 1 (by omega) (by omega), if_neg (by simp), if_neg hn, if_neg (by rw [h.left]; omega), if_pos (by omega), u1, ext_none]
    rfl
  rw [e] at hf ⊢
  refine ⟨?_, h.made, h.dead, h.left, hf, h.s0, h.l0, rfl, rfl⟩
  unfold cutN
  rw [h.rdy 1 (by omega) (by omega), if_neg (by simp), if_neg hn, u2]
theorem Two.app1 {d : Dk} {A B : ByteArray} (h : Two d A B) (s : ByteArray) (hs : B.size + s.size ≤ 1048576) : appN d 1 s = 0 ∧ synN (appD d 1 s) 1 = 0 ∧ Two (synD (appD d 1 s) 1) A (B ++ s) := by
  obtain ⟨u1, u2⟩ := h.use
  have hl : d.len 1 = B.size := by
    show d.s1.size + d.l1.size = _
    rw [h.s1, h.l1, D.no_len, Nat.add_zero]
  have e : appD d 1 s = { d with l1 := s } := by
    unfold appD
    rw [h.rdy 1 (by omega) (by omega), if_neg (by simp), if_neg (by rw [hl]; omega), if_neg (by rw [h.left]; omega), u1]
    show { d with l1 := d.l1 ++ s } = _
    rw [h.l1, app_none]
  have hf1 := appD_fits h.fits 1 s
  have hf2 := synD_fits hf1 1
  rw [e] at hf1 hf2 ⊢
  have hr : D.rdy { d with l1 := s } 1 = 0 := by
    have q := h.rdy 1 (by omega) (by omega)
    unfold D.rdy at q ⊢
    exact q
  have hu : useD { d with l1 := s } = { d with l1 := s } ∧ useN { d with l1 := s } = 0 := by
    have := h.left
    unfold useD useN
    rw [if_neg (show ¬ d.left = 0 by omega), if_neg (show ¬ 0 < d.left by omega), if_neg (show ¬ d.left = 0 by omega)]
    exact ⟨rfl, rfl⟩
  have e2 : synD { d with l1 := s } 1 = { d with s1 := B ++ s, l1 := ⟨#[]⟩ } := by
    unfold synD
    rw [hr, if_neg (by simp), if_neg (show ¬ d.left = 0 by rw [h.left]; omega), hu.1]
    show { d with s1 := d.s1 ++ s, l1 := ⟨#[]⟩ } = _
    rw [h.s1]
  rw [e2] at hf2 ⊢
  refine ⟨?_, ?_, h.made, h.dead, h.left, hf2, h.s0, h.l0, rfl, rfl⟩
  · unfold appN
    rw [h.rdy 1 (by omega) (by omega), if_neg (by simp), if_neg (by rw [hl]; omega), u2]
  · unfold synN
    rw [hr, if_neg (by simp), hu.2]

theorem Two.fmt {d : Dk} {A B : ByteArray} (h : Two d A B) (st : ByteArray) (hs : (lay 1 0 st).size ≤ 1048576) :
    cutN d 0 0 = 0 ∧ cutN (cutD d 0 0) 1 0 = 0 ∧ appN (cuts d 2) 0 (lay 1 0 st) = 0 ∧ synN (appD (cuts d 2) 0 (lay 1 0 st)) 0 = 0 ∧ Two (fmtD d st) (lay 1 0 st) ⟨#[]⟩ := by
  obtain ⟨a1, h1⟩ := h.cut0
  obtain ⟨a2, h2⟩ := h1.cut1
  obtain ⟨a3, a4, h3⟩ := h2.app0 (lay 1 0 st) (by rw [D.no_len]; omega)
  rw [app_none] at h3
  exact ⟨a1, a2, a3, a4, h3⟩
end Go.Proofs.Ytejfdiiennnjjaa.J
namespace Go.Proofs.Ytejfdiiennnjjaa.J
open Go.RowKit Go.Proofs Go.Proofs.Ytejfdiiennnjjaa Go.Proofs.YtejfdiiennnjjaaW.PrintWords Go.Proofs.Ytejfdiiennnjjaa.D
set_option linter.unusedVariables false

/-- A journal that has power: its block, its disk's; the file that counts, how many there were, how many commands ahead, the state, the commands; what the two files have. -/
structure Jt (jb db : Nat) (f : Int) (g q : Nat) (st : ByteArray) (l : List ByteArray) (A C : ByteArray) (B : Nat) (w : World) : Prop where
  ex : ∃ (j : Jn) (d : Dk), Jo jb j l d B w ∧ j.db = db ∧ j.file = f ∧ j.gen = (g : Nat) ∧ j.seq = (q : Nat) ∧ j.state = st ∧ j.dead = false ∧ Two d A C
theorem jt_format (b : Nat) (st : ByteArray) (w : World) (h : D.Is b zero w) (hs : st.size ≤ 1000000) (hz : (lay 1 0 st).size ≤ 1048576) :
    Calls Try.prog 51 #[.pointer (some ⟨b, 0, none⟩), .string st] w fun e w' => ∃ jb, e = .returned (.tuple #[.pointer (some ⟨jb, 0, none⟩), .int .i64 0]) ∧ Jt jb b 0 1 0 st [] (lay 1 0 st) ⟨#[]⟩ b w' ∧ Below b w w' := by
  obtain ⟨c0, c1, a0, y0, t⟩ := two_zero.fmt st hz
  refine (Format_ok b zero st w h zero_fits hs c0 c1 a0 y0).mono ?_
  rintro e w' ⟨jb, he, J, T, hj⟩
  exact ⟨jb, he, ⟨_, _, J, rfl, rfl, rfl, rfl, rfl, rfl, t⟩, T.below b (Nat.le_refl _)⟩
section
variable {jb db B g q : Nat} {st : ByteArray} {l : List ByteArray} {A C : ByteArray} {w w' : World} {f : Int}
theorem Jt.lt (h : Jt jb db f g q st l A C B w) : B ≤ jb ∧ jb < w.heap.size ∧ B ≤ db ∧ db < w.heap.size := by
  obtain ⟨j, d, J, rfl, _⟩ := h.ex
  exact ⟨J.bj, lt_of_block J.jn, J.bd, lt_of_block J.dk⟩
theorem Jt.later (h : Jt jb db f g q st l A C B w) (hb : Below w.heap.size w w') : Jt jb db f g q st l A C B w' := by
  obtain ⟨j, d, J, r⟩ := h.ex
  exact ⟨j, d, J.later hb, r⟩
theorem Jt.drewN (h : Jt jb db f g q st l A C B w) (n : Nat) : Jt jb db f g q st l A C B (w.drewN n) := by
  obtain ⟨j, d, J, r⟩ := h.ex
  exact ⟨j, d, J.drewN n, r⟩
theorem jt_state (h : Jt jb db f g q st l A C B w) : Calls Try.prog 46 #[.pointer (some ⟨jb, 0, none⟩)] w fun e w' => e = .returned (.string st) ∧ w' = w := by
  obtain ⟨j, d, J, e1, e2, e3, e4, e5, e6, t⟩ := h.ex
  have := State_any jb j w J.jn
  rw [e5] at this
  exact this
theorem jt_seq (h : Jt jb db f g q st l A C B w) (hq : q ≤ 1000000000) (hl : l.length ≤ 1000000000) : Calls Try.prog 48 #[.pointer (some ⟨jb, 0, none⟩)] w fun e w' => e = .returned (.int .i64 ((q + l.length : Nat) : Int)) ∧ ∃ n, w' = w.drewN n := by
  obtain ⟨j, d, J, e1, e2, e3, e4, e5, e6, t⟩ := h.ex
  obtain ⟨A0, c, hv⟩ := Kd.R_slice J.cm
  have := Seq_any jb j A0 l.length c w J.jn hv (by omega) (by omega) (by omega)
  rw [e4] at this
  push_cast
  exact this
theorem jt_cmds (h : Jt jb db f g q st l A C B w) (hl : l.length ≤ 1000000000) : Calls Try.prog 47 #[.pointer (some ⟨jb, 0, none⟩)] w fun e w' => ∃ v, e = .returned v ∧ Kd.R Kd.string 9 w' w.heap.size (fun _ => True) v l ∧ Below w.heap.size w w' := by
  obtain ⟨j, d, J, r⟩ := h.ex
  exact Commands_any jb B j l _ w J.jn J.cm hl

theorem jt_add0 (h : Jt jb db 0 g q st l A C B w) (cmd : ByteArray) (hs : cmd.size ≤ 4096) (hl : l.length ≤ 1000000000) (hz : A.size + cmd.size + 12 ≤ 1048576) :
    Calls Try.prog 44 #[.pointer (some ⟨jb, 0, none⟩), .string cmd] w fun e w' => e = .returned (.int .i64 0) ∧ Jt jb db 0 g q st (l ++ [cmd]) (A ++ rec1 cmd) C B w' ∧ Below B w w' := by
  obtain ⟨j, d, J, e1, e2, e3, e4, e5, e6, t⟩ := h.ex
  obtain ⟨a0, y0, t2⟩ := t.app0 (rec1 cmd) (by rw [rec1_size]; omega)
  have R := Add_ok jb B j l d cmd w J t.fits e6 hs hl (by rw [e2]; exact a0) (by rw [e2]; exact y0)
  rw [e2] at R
  refine R.mono ?_
  rintro e w' ⟨he, cv', J', b'⟩
  exact ⟨he, ⟨_, _, J', e1, rfl, e3, e4, e5, e6, t2⟩, b'⟩
theorem jt_turn0 (h : Jt jb db 0 g q st l A C B w) (st' : ByteArray) (hgb : g ≤ 1000000000) (hqb : q ≤ 1000000000) (hl : l.length ≤ 1000000000) (hs : st'.size ≤ 1000000) (hz : (lay (g + 1) (q + l.length) st').size ≤ 1048576) :
    Calls Try.prog 45 #[.pointer (some ⟨jb, 0, none⟩), .string st'] w fun e w' => e = .returned (.int .i64 0) ∧ Jt jb db 1 (g + 1) (q + l.length) st' [] A (lay (g + 1) (q + l.length) st') B w' ∧ Below B w w' := by
  obtain ⟨j, d, J, e1, e2, e3, e4, e5, e6, t⟩ := h.ex
  obtain ⟨c0, t1⟩ := t.cut1
  obtain ⟨a0, y0, t2⟩ := t1.app1 (lay (g + 1) (q + l.length) st') (by rw [D.no_len]; omega)
  rw [app_none] at t2
  have R := Turn_at0 jb B j l d g q st' w J t.fits e6 e2 e3 e4 hgb hqb hl hs hz c0 a0 y0
  refine R.mono ?_
  rintro e w' ⟨he, J', b'⟩
  exact ⟨he, ⟨_, _, J', e1, by show 1 - j.file = _; rw [e2]; rfl, by show j.gen + 1 = _; rw [e3]; push_cast; rfl, by show j.seq + (l.length : Int) = _; rw [e4]; push_cast; rfl, rfl, e6, t2⟩, b'⟩

theorem jt_add1 (h : Jt jb db 1 g q st l A C B w) (cmd : ByteArray) (hs : cmd.size ≤ 4096) (hl : l.length ≤ 1000000000) (hz : C.size + cmd.size + 12 ≤ 1048576) :
    Calls Try.prog 44 #[.pointer (some ⟨jb, 0, none⟩), .string cmd] w fun e w' => e = .returned (.int .i64 0) ∧ Jt jb db 1 g q st (l ++ [cmd]) A (C ++ rec1 cmd) B w' ∧ Below B w w' := by
  obtain ⟨j, d, J, e1, e2, e3, e4, e5, e6, t⟩ := h.ex
  obtain ⟨a0, y0, t2⟩ := t.app1 (rec1 cmd) (by rw [rec1_size]; omega)
  have R := Add_ok jb B j l d cmd w J t.fits e6 hs hl (by rw [e2]; exact a0) (by rw [e2]; exact y0)
  rw [e2] at R
  refine R.mono ?_
  rintro e w' ⟨he, cv', J', b'⟩
  exact ⟨he, ⟨_, _, J', e1, rfl, e3, e4, e5, e6, t2⟩, b'⟩
theorem jt_turn1 (h : Jt jb db 1 g q st l A C B w) (st' : ByteArray) (hgb : g ≤ 1000000000) (hqb : q ≤ 1000000000) (hl : l.length ≤ 1000000000) (hs : st'.size ≤ 1000000) (hz : (lay (g + 1) (q + l.length) st').size ≤ 1048576) :
    Calls Try.prog 45 #[.pointer (some ⟨jb, 0, none⟩), .string st'] w fun e w' => e = .returned (.int .i64 0) ∧ Jt jb db 0 (g + 1) (q + l.length) st' [] (lay (g + 1) (q + l.length) st') C B w' ∧ Below B w w' := by
  obtain ⟨j, d, J, e1, e2, e3, e4, e5, e6, t⟩ := h.ex
  obtain ⟨c0, t1⟩ := t.cut0
  obtain ⟨a0, y0, t2⟩ := t1.app0 (lay (g + 1) (q + l.length) st') (by rw [D.no_len]; omega)
  rw [app_none] at t2
  have R := Turn_at1 jb B j l d g q st' w J t.fits e6 e2 e3 e4 hgb hqb hl hs hz c0 a0 y0
  refine R.mono ?_
  rintro e w' ⟨he, J', b'⟩
  exact ⟨he, ⟨_, _, J', e1, by show 1 - j.file = _; rw [e2]; rfl, by show j.gen + 1 = _; rw [e3]; push_cast; rfl, by show j.seq + (l.length : Int) = _; rw [e4]; push_cast; rfl, rfl, e6, t2⟩, b'⟩
end
end Go.Proofs.Ytejfdiiennnjjaa.J
namespace Go.Proofs.Ytejfdiiennnjjaa.J
open Go.RowKit Go.Proofs Go.Proofs.Ytejfdiiennnjjaa Go.Proofs.YtejfdiiennnjjaaW.PrintWords Go.Proofs.Ytejfdiiennnjjaa.D
set_option linter.unusedVariables false

theorem texts_any (A0 : Option Addr) (c0 : Nat) (a : List ByteArray) (A1 : Option Addr) (c1 : Nat) (b : List ByteArray) (w : World) (h0 : Kd.C Kd.string w A0 a.length a) (hc0 : a.length ≤ c0) (h1 : Kd.C Kd.string w A1 b.length b) (hc1 : b.length ≤ c1) (ha : a.length ≤ 1000000000) :
    Calls Try.prog 30 #[.slice A0 a.length c0, .slice A1 b.length c1] w fun e w' => e = .returned (.bool (decide (a = b))) ∧ ∃ n, w' = w.drewN n := by
  obtain ⟨k, hk⟩ := (Facts.Texts_ev a b (by omega)).rounds
  exact (F.lombardref07_Texts.calls k A0 c0 a A1 c1 b _ w h0 hc0 h1 hc1 hk).mono fun e w' h => ⟨h.1, h.2.out⟩
def s_ : ByteArray := ⟨#[115]⟩
def a_ : ByteArray := ⟨#[97]⟩
def b_ : ByteArray := ⟨#[98]⟩
def t_ : ByteArray := ⟨#[116]⟩
def c_ : ByteArray := ⟨#[99]⟩
theorem small_lay (g q : Nat) (st : ByteArray) (h : st.size ≤ 20000) : (lay g q st).size ≤ 21000 := by
  have := lay_bound g q st (by omega)
  omega
set_option maxRecDepth 100000 in
set_option maxHeartbeats 4000000 in
theorem awake_any (w : World) : Calls Try.prog 52 #[] w fun e w' => e = .returned (.bool true) ∧ Below w.heap.size w w' := by
  have zs : s_.size = 1 := rfl
  have za : a_.size = 1 := rfl
  have zb : b_.size = 1 := rfl
  have zt : t_.size = 1 := rfl
  have zc : c_.size = 1 := rfl
  have l0 := small_lay 1 0 s_ (by omega)
  have l1 := small_lay 2 2 t_ (by omega)
  have ht : (t_.toList == [116]) = true := by rw [Facts.toList_L]; decide
  go_enter Try.func52, Try.ntmps52
  go_wp2_with fail
  refine (D.New_any w).mono ?_; rintro e w1 ⟨rfl, h1, b1⟩
  go_wp2_with fail
  refine (jt_format w.heap.size s_ w1 h1 (by omega) (by omega)).mono ?_; rintro e w2 ⟨jb, rfl, j2, b2⟩
  have B2 := b1.trans b2
  clear b1 b2 h1
  go_wp2_with fail
  refine (jt_add0 j2 a_ (by omega) (by simp) (by omega)).mono ?_; rintro e w3 ⟨rfl, j3, b3⟩
  have B3 := B2.trans b3
  clear b3 j2 B2
  go_wp2_with fail
  refine (jt_add0 j3 b_ (by omega) (by simp) (by rw [ByteArray.size_append, rec1_size]; omega)).mono ?_; rintro e w4 ⟨rfl, j4, b4⟩
  have B4 := B3.trans b4
  clear b4 j3 B3
  go_wp2_with fail
  refine (jt_turn0 j4 t_ (by omega) (by omega) (by simp) (by omega) (by show (lay 2 2 t_).size ≤ _; omega)).mono ?_; rintro e w5 ⟨rfl, j5, b5⟩
  have B5 := B4.trans b5
  clear b5 j4 B4
  go_wp2_with fail
  refine (jt_add1 j5 c_ (by omega) (by simp) (by show (lay 2 2 t_).size + _ + _ ≤ _; omega)).mono ?_; rintro e w6 ⟨rfl, j6, b6⟩
  have B6 := B5.trans b6
  clear b6 j5 B5
  go_wp2_with fail
  refine (jt_state j6).mono ?_; rintro e w7 ⟨rfl, rfl⟩
  go_wp2_with fail
  refine (jt_cmds j6 (by simp)).mono ?_; rintro e w8 ⟨v, rfl, r8, b8⟩
  obtain ⟨A8, c8, rfl⟩ := Kd.R_slice r8
  have j8 := j6.later b8
  have B8 := B6.trans (b8.mono (Nat.le_trans j6.lt.1 (Nat.le_of_lt j6.lt.2.1)))
  have e9 := Kd.R_reads' (Kd.R_alloc r8 (.cells #[.string c_] 9))
  have j9 := j8.later ((Below.refl _ _).alloc (Nat.le_refl _) (.cells #[.string c_] 9))
  have B9 := B8.alloc (Nat.le_trans j8.lt.1 (Nat.le_of_lt j8.lt.2.1)) (.cells #[.string c_] 9)
  have n9 : Kd.C Kd.string (w8.alloc (.cells #[.string c_] 9)) (some ⟨w8.heap.size, 0, none⟩) [c_].length [c_] := by
    refine Kd.C_of_reads (d := ByteArray.empty) ⟨rfl, by simp, fun _ => ⟨_, rfl, fun k hk => ?_⟩⟩
    obtain rfl : k = 0 := by simpa using hk
    rw [show (⟨w8.heap.size, 0, none⟩ : Addr).add 0 = ⟨w8.heap.size, 0, none⟩ from rfl]
    simp
  have X := texts_any A8 c8 [c_] (some ⟨w8.heap.size, 0, none⟩) 1 [c_] (w8.alloc (.cells #[.string c_] 9)) e9.2.2 e9.2.1 n9 (by simp) (by simp)
  rw [show decide ([c_] = [c_]) = true from decide_eq_true rfl] at X
  clear r8 b8 j6 B6 j8 B8 e9 n9
  go_wp2_with fail
  refine X.mono ?_; rintro e w9 ⟨rfl, n9, rfl⟩
  have j9 := j9.drewN n9
  clear X
  go_wp2_with fail
  refine (jt_seq j9 (by simp) (by simp)).mono ?_; rintro e w10 ⟨rfl, n10, rfl⟩
  have B10 : Below w.heap.size w ((w8.alloc (.cells #[.string c_] 9)).drewN (n9 + n10)) := B9.trans ⟨rfl, rfl, rfl, Nat.le_refl _, fun _ _ => rfl⟩
  go_wp2_with fail
  go_ret
  exact ⟨rfl, B10⟩
end Go.Proofs.Ytejfdiiennnjjaa.J
