/- What a file tells; look by one contract; Open of a disk on which a journal lies: the file that counts, what is cut off. -/
import Derived.Test.YtejfdiiennnjjaaZi
import Derived.Test.YtejfdiiennnjjaaZj
namespace Go.Proofs.Ytejfdiiennnjjaa.J
open Go.RowKit Go.Proofs Go.Proofs.Ytejfdiiennnjjaa Go.Proofs.YtejfdiiennnjjaaW.PrintWords Go.Proofs.YtejfdiiennnjjaaW.PrintLast Go.Proofs.YtejfdiiennnjjaaW.PrintMore Go.Proofs.Ytejfdiiennnjjaa.D
set_option linter.unusedVariables false

/-- A journal in a file: how many files there were, how many commands ahead, the state, the commands, where the last record ends. -/
structure Fd where
  g : Nat
  q : Nat
  st : ByteArray
  l : List ByteArray
  en : Nat
def Tells (X : ByteArray) : Option Fd → Prop
  | none => (∃ en er, Facts.readL (Facts.L X) = ([], en, er)) ∨ (∃ g q n hd r en er, Facts.readL (Facts.L X) = (hd :: r, en, er) ∧ Facts.L hd = sevenL g ++ (sevenL q ++ sevenL n) ∧ 1 ≤ g ∧ g ≤ 1000000000 ∧ q ≤ 1000000000 ∧ n ≤ 1000000000 ∧ r.length < n)
  | some f => ∃ er, Facts.readL (Facts.L X) = (head f.g f.q f.st :: (chunks f.st ++ f.l), f.en, er) ∧ 1 ≤ f.g ∧ f.g ≤ 1000000000 ∧ f.q ≤ 1000000000 ∧ (chunks f.st).length + f.l.length ≤ 1000000
def gO : Option Fd → Nat
  | none => 0
  | some f => f.g
def lO : Option Fd → List ByteArray
  | none => []
  | some f => f.l
/-- The record that look gives. -/
def fdv (o : Option Fd) (A : Option Addr) (c : Nat) : Array Value := match o with
  | none => #[.int .i64 0, .int .i64 0, .string ⟨#[]⟩, .slice A 0 c, .int .i64 0]
  | some f => #[.int .i64 (f.g : Int), .int .i64 (f.q : Int), .string f.st, .slice A f.l.length c, .int .i64 (f.en : Int)]
theorem look_tells (X : ByteArray) (o : Option Fd) (h : Tells X o) (hs : X.size ≤ 1048576) (w : World) :
    Calls Try.prog 70 #[.string X] w fun e w' => ∃ A c, e = .returned (.tuple #[.agg (fdv o A c), .bool o.isSome]) ∧ Tl w' w.heap.size (fun k => k ≠ w.heap.size) (.slice A (lO o).length c) (lO o) ∧ Below w.heap.size w w' := by
  cases o with
  | none =>
    have R : Calls Try.prog 70 #[.string X] w fun e w' => e = .returned (.tuple #[.agg none_found, .bool false]) ∧ Below w.heap.size w w' := by
      rcases h with ⟨en, er, h⟩ | ⟨g, q, n, hd, r, en, er, h, h1, h2, h3, h4, h5, h6⟩
      · exact look_bad0 X hs en er h w
      · exact look_bad1 X hs hd g q n r en er w h h1 h2 h3 h4 h5 h6
    exact R.mono fun e w' ⟨he, hb⟩ => ⟨none, 0, he, Tl.nil _ _ _, hb⟩
  | some f =>
    obtain ⟨er, h, h1, h2, h3, h4⟩ := h
    have hps : ∀ p ∈ chunks f.st, p.size ≤ 4096 := fun p hp => of_decide_eq_true (List.all_eq_true.1 (chunksF_all (f.st.size + 1) f.st (by omega)).1 p hp)
    have R := look_good X hs (head f.g f.q f.st) f.g f.q 0 (chunks f.st) f.l _ _ w h (head_L f.g f.q f.st) h1 h2 h3 h4 hps
    rw [join_all] at R
    exact R
theorem fdv_0 {w : World} {b : Nat} {o : Option Fd} {A : Option Addr} {c : Nat} (h : w.heap[b]? = some (.cells (fdv o A c) 122 (0, 0))) : w.cell? ⟨b, 0, none⟩ = some (.int .i64 (gO o : Nat)) := by
  cases o <;> simp [World.cell?, h, fdv, gO]
theorem fdv_c {w : World} {b : Nat} {o : Option Fd} {A : Option Addr} {c : Nat} (h : w.heap[b]? = some (.cells (fdv o A c) 122 (0, 0))) (k : Nat) (hk : k < 5) : ∃ v, w.cell? ⟨b, k, none⟩ = some v := by
  have hz : k < (fdv o A c).size := by cases o <;> exact hk
  exact ⟨(fdv o A c)[k], by simp [World.cell?, h, hz]⟩
theorem fdv_f {w : World} {b : Nat} {cs : Array Value} (h : w.heap[b]? = some (.cells cs 122 (0, 0))) (k : Nat) : w.frozen? ⟨b, k, none⟩ = false := by simp [World.frozen?, h]
theorem turn_below {b : Nat} {d : Dk} {w w1 w2 : World} (T : D.Turn b d w w1) (b1 : Below w1.heap.size w1 w2) : D.Turn b d w w2 := ⟨(b1.block _ (lt_of_block T.is)).trans T.is, fun c hc hne => (b1.block c (Nat.lt_of_lt_of_le hc T.size)).trans (T.others c hc hne), Nat.le_trans T.size b1.size, fun X hX => (T.below X hX).trans (b1.mono (Nat.le_of_lt (Nat.lt_of_le_of_lt hX (lt_of_block T.is))))⟩
/-- Another block than the disk's is written. -/
theorem turn_put {b : Nat} {d : Dk} {w w1 : World} {p : Addr} {v : Value} (hw : b < w.heap.size) (T : D.Turn b d w w1) (hp : w.heap.size ≤ p.block) : D.Turn b d w (w1.setCell p v) :=
  ⟨(Below.heap_setCell _ _ _ _ (by omega)).trans T.is, fun c hc hne => (Below.heap_setCell _ _ _ _ (by omega)).trans (T.others c hc hne), by simp only [World.setCell]; simpa using T.size, fun X hX => (T.below X hX).setCell (by omega) _⟩
def at3 {α : Type} (x y z : α) : Nat → α
  | 0 => x
  | 1 => y
  | _ => z
theorem all_size (d : Dk) (hf : d.Fits) (i : Int) : (allOf d i).size ≤ 1048576 := by
  unfold allOf
  split
  · exact Nat.zero_le _
  · have := len_max hf i
    rw [ByteArray.size_append]
    exact this
theorem len_all (d : Dk) (i : Int) : lenOf d i = (allOf d i).size := by
  unfold lenOf allOf
  split
  · rfl
  · rw [ByteArray.size_append]; rfl
theorem Tl.across {w1 w2 : World} {b g : Nat} {d : Dk} {v : Value} {l : List ByteArray} (h : Tl w1 g (fun k => k ≠ g) v l) (T : D.Turn b d w1 w2) (hb : b < g) : Tl w2 g (fun k => k ≠ g) v l := by
  have q : Tl w1 g (fun k => k ≠ g ∧ g ≤ k) v l := h.oks (fun k hk ho _ => ⟨ho, (h.own k hk).2.1⟩)
  exact (q.step T.size (fun k hk hl => T.others k hl (by omega))).oks (fun k _ ho _ => ho.1)
/-- What Open leaves. -/
def OpenPost (b : Nat) (f : Int) (F : Fd) (d1 : Dk) (w : World) (e : Ending) (w' : World) : Prop :=
  (synN d1 f = 0 ∧ ∃ jb A c, e = .returned (.tuple #[.pointer (some ⟨jb, 0, none⟩), .int .i64 0]) ∧ Ko jb ⟨b, f, F.g, F.q, F.st, .slice A F.l.length c, false⟩ F.l (synD d1 f) b w' ∧ D.Turn b (synD d1 f) w w' ∧ (∀ k, ft jb ⟨b, f, F.g, F.q, F.st, .slice A F.l.length c, false⟩ k → k = b ∨ w.heap.size ≤ k)) ∨
  (synN d1 f = 13 ∧ e = .returned (.tuple #[.pointer none, .int .i64 13]) ∧ D.Turn b (synD d1 f) w w')
theorem Tl.puts5 {w1 : World} {g : Nat} {v : Value} {l : List ByteArray} (h : Tl w1 g (fun k => k ≠ g) v l) (a0 a1 a2 a3 a4 : Value) : Tl (((((w1.setCell ⟨g, 0, none⟩ a0).setCell ⟨g, 1, none⟩ a1).setCell ⟨g, 2, none⟩ a2).setCell ⟨g, 3, none⟩ a3).setCell ⟨g, 4, none⟩ a4) g (fun k => k ≠ g) v l := by
  have q : ∀ (w : World) (i : Nat) (a : Value), Tl w g (fun k => k ≠ g) v l → Tl (w.setCell ⟨g, i, none⟩ a) g (fun k => k ≠ g) v l := fun w i a h => h.step (by simp [World.setCell]) (fun k hk _ => Below.heap_setCell _ _ _ _ hk)
  exact q _ _ _ (q _ _ _ (q _ _ _ (q _ _ _ (q _ _ _ h))))
theorem turn_puts5 {b : Nat} {d : Dk} {w w1 : World} (hw : b < w.heap.size) (T : D.Turn b d w w1) (a0 a1 a2 a3 a4 : Value) : D.Turn b d w (((((w1.setCell ⟨w.heap.size, 0, none⟩ a0).setCell ⟨w.heap.size, 1, none⟩ a1).setCell ⟨w.heap.size, 2, none⟩ a2).setCell ⟨w.heap.size, 3, none⟩ a3).setCell ⟨w.heap.size, 4, none⟩ a4) :=
  turn_put hw (turn_put hw (turn_put hw (turn_put hw (turn_put hw T (Nat.le_refl _)) (Nat.le_refl _)) (Nat.le_refl _)) (Nat.le_refl _)) (Nat.le_refl _)
/-- A row of an elder block than the journal's. -/
theorem Tl.new_ok {w1 : World} {g b : Nat} {v : Value} {l : List ByteArray} (h : Tl w1 g (fun k => k ≠ g) v l) (hb : b < g) (o : Obj) : Tl (w1.alloc o) b (fun k => k ≠ w1.heap.size ∧ k ≠ b) v l :=
  ((h.oks (ok' := fun k => k ≠ w1.heap.size ∧ k ≠ b) (fun k hk _ hl => ⟨by omega, by have := (h.own k hk).2.1; omega⟩)).low (Nat.le_of_lt hb)).below ((Below.refl _ _).alloc (Nat.le_refl _) o)
set_option maxRecDepth 100000 in
set_option maxHeartbeats 40000000 in
theorem open0n (b : Nat) (d d1 : Dk) (X0 X1 : ByteArray) (F : Fd) (w : World) (h : D.Is b d w) (hf : d.Fits) (r0 : rdy d 0 = 0) (r1 : rdy d 1 = 0) (e0 : allOf d 0 = X0) (e1 : allOf d 1 = X1) (t0 : Tells X0 (some F)) (t1 : Tells X1 (none))
    (hc : (F.en = X0.size ∧ d1 = d) ∨ (F.en < X0.size ∧ cutN d 0 F.en = 0 ∧ d1 = cutD d 0 F.en)) (hy : synN d1 0 = 0 ∨ synN d1 0 = 13) :
    Calls Try.prog 50 #[.pointer (some ⟨b, 0, none⟩)] w (OpenPost b 0 F d1 w) := by
  have hb := lt_of_block h
  have R0 := fun w' (h' : D.Is b d w') => D.Read_any b d 0 w' h' hf
  have R1 := fun w' (h' : D.Is b d w') => D.Read_any b d 1 w' h' hf
  have hs0 : X0.size ≤ 1048576 := by rw [← e0]; exact all_size d hf 0
  have hs1 : X1.size ≤ 1048576 := by rw [← e1]; exact all_size d hf 1
  have hlen : lenOf d 0 = X0.size := by rw [← e0]; exact len_all d 0
  have N0 := fun w' (h' : D.Is b d w') => D.Len_any b d 0 w' h' hf
  rw [hlen, r0] at N0
  rw [r0, e0] at R0
  rw [r1, e1] at R1
  have L0 := look_tells X0 _ t0 hs0
  have L1 := look_tells X1 _ t1 hs1
  have hg1 : 1 ≤ F.g := by obtain ⟨_, _, h1, _⟩ := t0; exact h1
  have HL := Lib.hid hlen
  have HS := Lib.hid hs0
  clear t0 t1 e0 e1 hs0 hs1 hlen r0 r1
  have HC := Lib.hid hc
  have HY := Lib.hid hy
  clear hc hy
  go_enter Try.func50, Try.ntmps50
  go_wp2_with fail
  go_loopw [5, 15] (fun fl i wr => ∃ (n : Int) (A : Option Addr) (c : Nat), 0 ≤ n ∧ n ≤ 2 ∧ i = .int .i64 n ∧ fl = .int .i64 (at3 (-1) 0 0 n.toNat) ∧ wr.heap[w.heap.size]? = some (.cells (fdv (at3 none (some F) (some F) n.toNat) A c) 122 (0, 0)) ∧ Tl wr w.heap.size (fun k => k ≠ w.heap.size) (.slice A (lO (at3 none (some F) (some F) n.toNat)).length c) (lO (at3 none (some F) (some F) n.toNat)) ∧ D.Turn b d w wr) (fun fl i _ => (2 - intOf i).toNat)
  case atStart => exact ⟨0, none, 0, by omega, by omega, rfl, rfl, heap_alloc_new _ _, Tl.nil _ _ _, (D.Turn.refl h).alloc _⟩
  case round =>
    obtain ⟨n, A, c, hn0, hn2, rfl, rfl, hB, hT, T⟩ := hrel
    obtain rfl | rfl | rfl : n = 0 ∨ n = 1 ∨ n = 2 := by omega
    · replace hB : wr.heap[w.heap.size]? = some (.cells (fdv (none) A c) 122 (0, 0)) := hB
      replace hT : Tl wr w.heap.size (fun k => k ≠ w.heap.size) (.slice A (lO (none)).length c) (lO (none)) := hT
      simp only [at3, Int.toNat_zero]
      go_wp2_with fail
      refine (R0 _ T.is).mono ?_; rintro e w1 ⟨rfl, T1⟩
      have hB1 := (T1.others _ (lt_of_block hB) (by omega)).trans hB
      have hT1 := hT.across T1 hb
      have T2 := T.trans T1
      clear T1 T hB hT
      go_wp2_with fail
      refine (L0 _).mono ?_; rintro e w3 ⟨A3, c3, rfl, t3, b3⟩
      have hlt1 := lt_of_block hB1
      have hB3 := (b3.block _ hlt1).trans hB1
      have hT3 := hT1.below b3
      have T3 := turn_below T2 b3
      have t4 := (t3.oks (ok' := fun k => k ≠ w.heap.size) (fun k hk _ _ => by have := (t3.own k hk).2.1; omega)).low (B' := w.heap.size) (Nat.le_of_lt hlt1)
      have hlt3 := lt_of_block hB3
      clear T2 b3 hB1 hT1 t3 hlt1
      have z0 := fdv_0 hB3
      obtain ⟨v1, z1⟩ := fdv_c hB3 1 (by omega)
      obtain ⟨v2, z2⟩ := fdv_c hB3 2 (by omega)
      obtain ⟨v3, z3⟩ := fdv_c hB3 3 (by omega)
      obtain ⟨v4, z4⟩ := fdv_c hB3 4 (by omega)
      have f0 := fdv_f hB3 0
      have f1 := fdv_f hB3 1
      have f2 := fdv_f hB3 2
      have f3 := fdv_f hB3 3
      have f4 := fdv_f hB3 4
      have P := put_at (i := 4) (v := .int .i64 (F.en : Int)) (put_at (i := 3) (v := .slice A3 F.l.length c3) (put_at (i := 2) (v := .string F.st) (put_at (i := 1) (v := .int .i64 (F.q : Int)) (put_at (i := 0) (v := .int .i64 (F.g : Int)) hB3))))
      have U := t4.puts5 (.int .i64 (F.g : Int)) (.int .i64 (F.q : Int)) (.string F.st) (.slice A3 F.l.length c3) (.int .i64 (F.en : Int))
      have V := turn_puts5 hb T3 (.int .i64 (F.g : Int)) (.int .i64 (F.q : Int)) (.string F.st) (.slice A3 F.l.length c3) (.int .i64 (F.en : Int))
      have P4 := (Below.heap_alloc _ (.cells (fdv (some F) A3 c3) 122) _ (lt_of_block P)).trans P
      have U4 := U.below ((Below.refl _ _).alloc (Nat.le_refl _) (.cells (fdv (some F) A3 c3) 122))
      have V4 := V.alloc (.cells (fdv (some F) A3 c3) 122)
      clear P U V
      clear T3 hB3 hT3 t4
      simp only [gO] at z0
      simp only [fdv] at P4 U4 V4
      simp only [fdv, Option.isSome]
      have hlt : (0 : Int) < (F.g : Int) := by omega
      have ZP := Lib.hid P4
      have ZU := Lib.hid U4
      have ZV := Lib.hid V4
      clear P4 U4 V4
      go_wp2_with fail
      go_roundw
      case rel => exact ⟨1, A3, c3, by omega, by omega, rfl, rfl, ZP.out, ZU.out, ZV.out⟩
      case measure => simp [intOf]
    · replace hB : wr.heap[w.heap.size]? = some (.cells (fdv (some F) A c) 122 (0, 0)) := hB
      replace hT : Tl wr w.heap.size (fun k => k ≠ w.heap.size) (.slice A (lO (some F)).length c) (lO (some F)) := hT
      simp only [at3, Int.toNat_one]
      go_wp2_with fail
      refine (R1 _ T.is).mono ?_; rintro e w1 ⟨rfl, T1⟩
      have hB1 := (T1.others _ (lt_of_block hB) (by omega)).trans hB
      have hT1 := hT.across T1 hb
      have T2 := T.trans T1
      clear T1 T hB hT
      go_wp2_with fail
      refine (L1 _).mono ?_; rintro e w3 ⟨A3, c3, rfl, t3, b3⟩
      have hlt1 := lt_of_block hB1
      have hB3 := (b3.block _ hlt1).trans hB1
      have hT3 := hT1.below b3
      have T3 := turn_below T2 b3
      have t4 := (t3.oks (ok' := fun k => k ≠ w.heap.size) (fun k hk _ _ => by have := (t3.own k hk).2.1; omega)).low (B' := w.heap.size) (Nat.le_of_lt hlt1)
      have hlt3 := lt_of_block hB3
      clear T2 b3 hB1 hT1 t3 hlt1
      have z0 := fdv_0 hB3
      have P4 := (Below.heap_alloc w3 (.cells (fdv (none) A3 c3) 122) _ hlt3).trans hB3
      have U4 := hT3.below ((Below.refl _ _).alloc (Nat.le_refl _) (.cells (fdv (none) A3 c3) 122))
      have V4 := T3.alloc (.cells (fdv (none) A3 c3) 122)
      clear T3 hB3 hT3 t4
      simp only [gO] at z0
      simp only [fdv] at P4 U4 V4
      simp only [fdv, Option.isSome]
      have ZP := Lib.hid P4
      have ZU := Lib.hid U4
      have ZV := Lib.hid V4
      clear P4 U4 V4
      go_wp2_with fail
      go_roundw
      case rel => exact ⟨2, A, c, by omega, by omega, rfl, rfl, ZP.out, ZU.out, ZV.out⟩
      case measure => simp [intOf]
    · replace hB : wr.heap[w.heap.size]? = some (.cells (fdv (some F) A c) 122 (0, 0)) := hB
      replace hT : Tl wr w.heap.size (fun k => k ≠ w.heap.size) (.slice A F.l.length c) F.l := hT
      simp only [at3, show Int.toNat 2 = 2 from rfl]
      go_wp2_with fail
      refine (N0 _ T.is).mono ?_; rintro e w1 ⟨rfl, T1⟩
      have hB2 := (T1.others _ (lt_of_block hB) (by omega)).trans hB
      have hT2 := hT.across T1 hb
      have T2 := T.trans T1
      clear T1 T hB hT R0 R1 L0 L1 N0
      have z0 : w1.cell? ⟨w.heap.size, 0, none⟩ = some (.int .i64 (F.g : Int)) := by simp [World.cell?, hB2, fdv]
      have z1 : w1.cell? ⟨w.heap.size, 1, none⟩ = some (.int .i64 (F.q : Int)) := by simp [World.cell?, hB2, fdv]
      have z2 : w1.cell? ⟨w.heap.size, 2, none⟩ = some (.string F.st) := by simp [World.cell?, hB2, fdv]
      have z3 : w1.cell? ⟨w.heap.size, 3, none⟩ = some (.slice A F.l.length c) := by simp [World.cell?, hB2, fdv]
      have z4 : w1.cell? ⟨w.heap.size, 4, none⟩ = some (.int .i64 (F.en : Int)) := by simp [World.cell?, hB2, fdv]
      rcases HC.out with ⟨he, rfl⟩ | ⟨he, c0, rfl⟩
      · have hno : ¬ ((F.en : Int) < (X0.size : Int)) := by omega
        rcases HY.out with y0 | y0
        · have Y := D.Sync_any b _ 0 _ T2.is hf
          rw [y0] at Y
          go_wp2_with fail
          refine Y.mono ?_; rintro e w3 ⟨rfl, T1⟩
          have hB3 := (T1.others _ (lt_of_block hB2) (by omega)).trans hB2
          have hT3 := hT2.across T1 hb
          have T3 := T2.trans T1
          clear T1 T2 hB2 hT2 z0 z1 z2 z3 z4 Y
          have z0 : w3.cell? ⟨w.heap.size, 0, none⟩ = some (.int .i64 (F.g : Int)) := by simp [World.cell?, hB3, fdv]
          have z1 : w3.cell? ⟨w.heap.size, 1, none⟩ = some (.int .i64 (F.q : Int)) := by simp [World.cell?, hB3, fdv]
          have z2 : w3.cell? ⟨w.heap.size, 2, none⟩ = some (.string F.st) := by simp [World.cell?, hB3, fdv]
          have z3 : w3.cell? ⟨w.heap.size, 3, none⟩ = some (.slice A F.l.length c) := by simp [World.cell?, hB3, fdv]
          have z4 : w3.cell? ⟨w.heap.size, 4, none⟩ = some (.int .i64 (F.en : Int)) := by simp [World.cell?, hB3, fdv]
          have hZ := T3.size
          have hl3 := lt_of_block hB3
          clear HL HS HC HY
          go_wp2_with fail
          go_ret2
          exact .inl ⟨y0, _, A, c, rfl, ⟨heap_alloc_new _ _, (T3.alloc _).is, hT3.new_ok hb _, by show _ ≠ b; omega, by omega, Nat.le_refl _⟩, T3.alloc _, by
            rintro k (rfl | rfl | e)
            · exact .inr (by omega)
            · exact .inl rfl
            · exact .inr (Nat.le_of_lt (by have := hT3.own k e; omega))⟩
        · have Y := D.Sync_any b _ 0 _ T2.is hf
          rw [y0] at Y
          go_wp2_with fail
          refine Y.mono ?_; rintro e w3 ⟨rfl, T1⟩
          have hB3 := (T1.others _ (lt_of_block hB2) (by omega)).trans hB2
          have hT3 := hT2.across T1 hb
          have T3 := T2.trans T1
          clear T1 T2 hB2 hT2 z0 z1 z2 z3 z4 Y
          have z0 : w3.cell? ⟨w.heap.size, 0, none⟩ = some (.int .i64 (F.g : Int)) := by simp [World.cell?, hB3, fdv]
          have z1 : w3.cell? ⟨w.heap.size, 1, none⟩ = some (.int .i64 (F.q : Int)) := by simp [World.cell?, hB3, fdv]
          have z2 : w3.cell? ⟨w.heap.size, 2, none⟩ = some (.string F.st) := by simp [World.cell?, hB3, fdv]
          have z3 : w3.cell? ⟨w.heap.size, 3, none⟩ = some (.slice A F.l.length c) := by simp [World.cell?, hB3, fdv]
          have z4 : w3.cell? ⟨w.heap.size, 4, none⟩ = some (.int .i64 (F.en : Int)) := by simp [World.cell?, hB3, fdv]
          clear HL HS HC HY
          go_wp2_with fail
          go_ret2
          exact .inr ⟨y0, rfl, T3⟩
      · have hno : ((F.en : Int) < (X0.size : Int)) := by omega
        have Y := D.Cut_any b _ 0 (F.en : Int) _ T2.is hf
        rw [c0] at Y
        go_wp2_with fail
        refine Y.mono ?_; rintro e w3 ⟨rfl, T1⟩
        have hB3 := (T1.others _ (lt_of_block hB2) (by omega)).trans hB2
        have hT3 := hT2.across T1 hb
        have T3 := T2.trans T1
        clear T1 T2 hB2 hT2 z0 z1 z2 z3 z4 Y
        have z0 : w3.cell? ⟨w.heap.size, 0, none⟩ = some (.int .i64 (F.g : Int)) := by simp [World.cell?, hB3, fdv]
        have z1 : w3.cell? ⟨w.heap.size, 1, none⟩ = some (.int .i64 (F.q : Int)) := by simp [World.cell?, hB3, fdv]
        have z2 : w3.cell? ⟨w.heap.size, 2, none⟩ = some (.string F.st) := by simp [World.cell?, hB3, fdv]
        have z3 : w3.cell? ⟨w.heap.size, 3, none⟩ = some (.slice A F.l.length c) := by simp [World.cell?, hB3, fdv]
        have z4 : w3.cell? ⟨w.heap.size, 4, none⟩ = some (.int .i64 (F.en : Int)) := by simp [World.cell?, hB3, fdv]
        rcases HY.out with y0 | y0
        · have Y := D.Sync_any b _ 0 _ T3.is (cutD_fits hf _ _)
          rw [y0] at Y
          go_wp2_with fail
          refine Y.mono ?_; rintro e w4 ⟨rfl, T1⟩
          have hB4 := (T1.others _ (lt_of_block hB3) (by omega)).trans hB3
          have hT4 := hT3.across T1 hb
          have T4 := T3.trans T1
          clear T1 T3 hB3 hT3 z0 z1 z2 z3 z4 Y
          have z0 : w4.cell? ⟨w.heap.size, 0, none⟩ = some (.int .i64 (F.g : Int)) := by simp [World.cell?, hB4, fdv]
          have z1 : w4.cell? ⟨w.heap.size, 1, none⟩ = some (.int .i64 (F.q : Int)) := by simp [World.cell?, hB4, fdv]
          have z2 : w4.cell? ⟨w.heap.size, 2, none⟩ = some (.string F.st) := by simp [World.cell?, hB4, fdv]
          have z3 : w4.cell? ⟨w.heap.size, 3, none⟩ = some (.slice A F.l.length c) := by simp [World.cell?, hB4, fdv]
          have z4 : w4.cell? ⟨w.heap.size, 4, none⟩ = some (.int .i64 (F.en : Int)) := by simp [World.cell?, hB4, fdv]
          have hZ := T4.size
          have hl4 := lt_of_block hB4
          clear HL HS HC HY
          go_wp2_with fail
          go_ret2
          exact .inl ⟨y0, _, A, c, rfl, ⟨heap_alloc_new _ _, (T4.alloc _).is, hT4.new_ok hb _, by show _ ≠ b; omega, by omega, Nat.le_refl _⟩, T4.alloc _, by
            rintro k (rfl | rfl | e)
            · exact .inr (by omega)
            · exact .inl rfl
            · exact .inr (Nat.le_of_lt (by have := hT4.own k e; omega))⟩
        · have Y := D.Sync_any b _ 0 _ T3.is (cutD_fits hf _ _)
          rw [y0] at Y
          go_wp2_with fail
          refine Y.mono ?_; rintro e w4 ⟨rfl, T1⟩
          have hB4 := (T1.others _ (lt_of_block hB3) (by omega)).trans hB3
          have hT4 := hT3.across T1 hb
          have T4 := T3.trans T1
          clear T1 T3 hB3 hT3 z0 z1 z2 z3 z4 Y
          have z0 : w4.cell? ⟨w.heap.size, 0, none⟩ = some (.int .i64 (F.g : Int)) := by simp [World.cell?, hB4, fdv]
          have z1 : w4.cell? ⟨w.heap.size, 1, none⟩ = some (.int .i64 (F.q : Int)) := by simp [World.cell?, hB4, fdv]
          have z2 : w4.cell? ⟨w.heap.size, 2, none⟩ = some (.string F.st) := by simp [World.cell?, hB4, fdv]
          have z3 : w4.cell? ⟨w.heap.size, 3, none⟩ = some (.slice A F.l.length c) := by simp [World.cell?, hB4, fdv]
          have z4 : w4.cell? ⟨w.heap.size, 4, none⟩ = some (.int .i64 (F.en : Int)) := by simp [World.cell?, hB4, fdv]
          clear HL HS HC HY
          go_wp2_with fail
          go_ret2
          exact .inr ⟨y0, rfl, T4⟩
set_option maxRecDepth 100000 in
set_option maxHeartbeats 40000000 in
theorem open0G (b : Nat) (d d1 : Dk) (X0 X1 : ByteArray) (F G : Fd) (w : World) (h : D.Is b d w) (hf : d.Fits) (r0 : rdy d 0 = 0) (r1 : rdy d 1 = 0) (e0 : allOf d 0 = X0) (e1 : allOf d 1 = X1) (t0 : Tells X0 (some F)) (t1 : Tells X1 (some G)) (hg : G.g ≤ F.g)
    (hc : (F.en = X0.size ∧ d1 = d) ∨ (F.en < X0.size ∧ cutN d 0 F.en = 0 ∧ d1 = cutD d 0 F.en)) (hy : synN d1 0 = 0 ∨ synN d1 0 = 13) :
    Calls Try.prog 50 #[.pointer (some ⟨b, 0, none⟩)] w (OpenPost b 0 F d1 w) := by
  have hb := lt_of_block h
  have R0 := fun w' (h' : D.Is b d w') => D.Read_any b d 0 w' h' hf
  have R1 := fun w' (h' : D.Is b d w') => D.Read_any b d 1 w' h' hf
  have hs0 : X0.size ≤ 1048576 := by rw [← e0]; exact all_size d hf 0
  have hs1 : X1.size ≤ 1048576 := by rw [← e1]; exact all_size d hf 1
  have hlen : lenOf d 0 = X0.size := by rw [← e0]; exact len_all d 0
  have N0 := fun w' (h' : D.Is b d w') => D.Len_any b d 0 w' h' hf
  rw [hlen, r0] at N0
  rw [r0, e0] at R0
  rw [r1, e1] at R1
  have L0 := look_tells X0 _ t0 hs0
  have L1 := look_tells X1 _ t1 hs1
  have hg1 : 1 ≤ F.g := by obtain ⟨_, _, h1, _⟩ := t0; exact h1
  have hg2 : 1 ≤ G.g := by obtain ⟨_, _, h1, _⟩ := t1; exact h1
  have HL := Lib.hid hlen
  have HS := Lib.hid hs0
  clear t0 t1 e0 e1 hs0 hs1 hlen r0 r1
  have HC := Lib.hid hc
  have HY := Lib.hid hy
  clear hc hy
  go_enter Try.func50, Try.ntmps50
  go_wp2_with fail
  go_loopw [5, 15] (fun fl i wr => ∃ (n : Int) (A : Option Addr) (c : Nat), 0 ≤ n ∧ n ≤ 2 ∧ i = .int .i64 n ∧ fl = .int .i64 (at3 (-1) 0 0 n.toNat) ∧ wr.heap[w.heap.size]? = some (.cells (fdv (at3 none (some F) (some F) n.toNat) A c) 122 (0, 0)) ∧ Tl wr w.heap.size (fun k => k ≠ w.heap.size) (.slice A (lO (at3 none (some F) (some F) n.toNat)).length c) (lO (at3 none (some F) (some F) n.toNat)) ∧ D.Turn b d w wr) (fun fl i _ => (2 - intOf i).toNat)
  case atStart => exact ⟨0, none, 0, by omega, by omega, rfl, rfl, heap_alloc_new _ _, Tl.nil _ _ _, (D.Turn.refl h).alloc _⟩
  case round =>
    obtain ⟨n, A, c, hn0, hn2, rfl, rfl, hB, hT, T⟩ := hrel
    obtain rfl | rfl | rfl : n = 0 ∨ n = 1 ∨ n = 2 := by omega
    · replace hB : wr.heap[w.heap.size]? = some (.cells (fdv (none) A c) 122 (0, 0)) := hB
      replace hT : Tl wr w.heap.size (fun k => k ≠ w.heap.size) (.slice A (lO (none)).length c) (lO (none)) := hT
      simp only [at3, Int.toNat_zero]
      go_wp2_with fail
      refine (R0 _ T.is).mono ?_; rintro e w1 ⟨rfl, T1⟩
      have hB1 := (T1.others _ (lt_of_block hB) (by omega)).trans hB
      have hT1 := hT.across T1 hb
      have T2 := T.trans T1
      clear T1 T hB hT
      go_wp2_with fail
      refine (L0 _).mono ?_; rintro e w3 ⟨A3, c3, rfl, t3, b3⟩
      have hlt1 := lt_of_block hB1
      have hB3 := (b3.block _ hlt1).trans hB1
      have hT3 := hT1.below b3
      have T3 := turn_below T2 b3
      have t4 := (t3.oks (ok' := fun k => k ≠ w.heap.size) (fun k hk _ _ => by have := (t3.own k hk).2.1; omega)).low (B' := w.heap.size) (Nat.le_of_lt hlt1)
      have hlt3 := lt_of_block hB3
      clear T2 b3 hB1 hT1 t3 hlt1
      have z0 := fdv_0 hB3
      obtain ⟨v1, z1⟩ := fdv_c hB3 1 (by omega)
      obtain ⟨v2, z2⟩ := fdv_c hB3 2 (by omega)
      obtain ⟨v3, z3⟩ := fdv_c hB3 3 (by omega)
      obtain ⟨v4, z4⟩ := fdv_c hB3 4 (by omega)
      have f0 := fdv_f hB3 0
      have f1 := fdv_f hB3 1
      have f2 := fdv_f hB3 2
      have f3 := fdv_f hB3 3
      have f4 := fdv_f hB3 4
      have P := put_at (i := 4) (v := .int .i64 (F.en : Int)) (put_at (i := 3) (v := .slice A3 F.l.length c3) (put_at (i := 2) (v := .string F.st) (put_at (i := 1) (v := .int .i64 (F.q : Int)) (put_at (i := 0) (v := .int .i64 (F.g : Int)) hB3))))
      have U := t4.puts5 (.int .i64 (F.g : Int)) (.int .i64 (F.q : Int)) (.string F.st) (.slice A3 F.l.length c3) (.int .i64 (F.en : Int))
      have V := turn_puts5 hb T3 (.int .i64 (F.g : Int)) (.int .i64 (F.q : Int)) (.string F.st) (.slice A3 F.l.length c3) (.int .i64 (F.en : Int))
      have P4 := (Below.heap_alloc _ (.cells (fdv (some F) A3 c3) 122) _ (lt_of_block P)).trans P
      have U4 := U.below ((Below.refl _ _).alloc (Nat.le_refl _) (.cells (fdv (some F) A3 c3) 122))
      have V4 := V.alloc (.cells (fdv (some F) A3 c3) 122)
      clear P U V
      clear T3 hB3 hT3 t4
      simp only [gO] at z0
      simp only [fdv] at P4 U4 V4
      simp only [fdv, Option.isSome]
      have hlt : (0 : Int) < (F.g : Int) := by omega
      have ZP := Lib.hid P4
      have ZU := Lib.hid U4
      have ZV := Lib.hid V4
      clear P4 U4 V4
      go_wp2_with fail
      go_roundw
      case rel => exact ⟨1, A3, c3, by omega, by omega, rfl, rfl, ZP.out, ZU.out, ZV.out⟩
      case measure => simp [intOf]
    · replace hB : wr.heap[w.heap.size]? = some (.cells (fdv (some F) A c) 122 (0, 0)) := hB
      replace hT : Tl wr w.heap.size (fun k => k ≠ w.heap.size) (.slice A (lO (some F)).length c) (lO (some F)) := hT
      simp only [at3, Int.toNat_one]
      go_wp2_with fail
      refine (R1 _ T.is).mono ?_; rintro e w1 ⟨rfl, T1⟩
      have hB1 := (T1.others _ (lt_of_block hB) (by omega)).trans hB
      have hT1 := hT.across T1 hb
      have T2 := T.trans T1
      clear T1 T hB hT
      go_wp2_with fail
      refine (L1 _).mono ?_; rintro e w3 ⟨A3, c3, rfl, t3, b3⟩
      have hlt1 := lt_of_block hB1
      have hB3 := (b3.block _ hlt1).trans hB1
      have hT3 := hT1.below b3
      have T3 := turn_below T2 b3
      have t4 := (t3.oks (ok' := fun k => k ≠ w.heap.size) (fun k hk _ _ => by have := (t3.own k hk).2.1; omega)).low (B' := w.heap.size) (Nat.le_of_lt hlt1)
      have hlt3 := lt_of_block hB3
      clear T2 b3 hB1 hT1 t3 hlt1
      have z0 := fdv_0 hB3
      have P4 := (Below.heap_alloc w3 (.cells (fdv (some G) A3 c3) 122) _ hlt3).trans hB3
      have U4 := hT3.below ((Below.refl _ _).alloc (Nat.le_refl _) (.cells (fdv (some G) A3 c3) 122))
      have V4 := T3.alloc (.cells (fdv (some G) A3 c3) 122)
      clear T3 hB3 hT3 t4
      simp only [gO] at z0
      simp only [fdv] at P4 U4 V4
      simp only [fdv, Option.isSome]
      have hlt : ¬ ((F.g : Int) < (G.g : Int)) := by omega
      have ZP := Lib.hid P4
      have ZU := Lib.hid U4
      have ZV := Lib.hid V4
      clear P4 U4 V4
      go_wp2_with fail
      go_roundw
      case rel => exact ⟨2, A, c, by omega, by omega, rfl, rfl, ZP.out, ZU.out, ZV.out⟩
      case measure => simp [intOf]
    · replace hB : wr.heap[w.heap.size]? = some (.cells (fdv (some F) A c) 122 (0, 0)) := hB
      replace hT : Tl wr w.heap.size (fun k => k ≠ w.heap.size) (.slice A F.l.length c) F.l := hT
      simp only [at3, show Int.toNat 2 = 2 from rfl]
      go_wp2_with fail
      refine (N0 _ T.is).mono ?_; rintro e w1 ⟨rfl, T1⟩
      have hB2 := (T1.others _ (lt_of_block hB) (by omega)).trans hB
      have hT2 := hT.across T1 hb
      have T2 := T.trans T1
      clear T1 T hB hT R0 R1 L0 L1 N0
      have z0 : w1.cell? ⟨w.heap.size, 0, none⟩ = some (.int .i64 (F.g : Int)) := by simp [World.cell?, hB2, fdv]
      have z1 : w1.cell? ⟨w.heap.size, 1, none⟩ = some (.int .i64 (F.q : Int)) := by simp [World.cell?, hB2, fdv]
      have z2 : w1.cell? ⟨w.heap.size, 2, none⟩ = some (.string F.st) := by simp [World.cell?, hB2, fdv]
      have z3 : w1.cell? ⟨w.heap.size, 3, none⟩ = some (.slice A F.l.length c) := by simp [World.cell?, hB2, fdv]
      have z4 : w1.cell? ⟨w.heap.size, 4, none⟩ = some (.int .i64 (F.en : Int)) := by simp [World.cell?, hB2, fdv]
      rcases HC.out with ⟨he, rfl⟩ | ⟨he, c0, rfl⟩
      · have hno : ¬ ((F.en : Int) < (X0.size : Int)) := by omega
        rcases HY.out with y0 | y0
        · have Y := D.Sync_any b _ 0 _ T2.is hf
          rw [y0] at Y
          go_wp2_with fail
          refine Y.mono ?_; rintro e w3 ⟨rfl, T1⟩
          have hB3 := (T1.others _ (lt_of_block hB2) (by omega)).trans hB2
          have hT3 := hT2.across T1 hb
          have T3 := T2.trans T1
          clear T1 T2 hB2 hT2 z0 z1 z2 z3 z4 Y
          have z0 : w3.cell? ⟨w.heap.size, 0, none⟩ = some (.int .i64 (F.g : Int)) := by simp [World.cell?, hB3, fdv]
          have z1 : w3.cell? ⟨w.heap.size, 1, none⟩ = some (.int .i64 (F.q : Int)) := by simp [World.cell?, hB3, fdv]
          have z2 : w3.cell? ⟨w.heap.size, 2, none⟩ = some (.string F.st) := by simp [World.cell?, hB3, fdv]
          have z3 : w3.cell? ⟨w.heap.size, 3, none⟩ = some (.slice A F.l.length c) := by simp [World.cell?, hB3, fdv]
          have z4 : w3.cell? ⟨w.heap.size, 4, none⟩ = some (.int .i64 (F.en : Int)) := by simp [World.cell?, hB3, fdv]
          have hZ := T3.size
          have hl3 := lt_of_block hB3
          clear HL HS HC HY
          go_wp2_with fail
          go_ret2
          exact .inl ⟨y0, _, A, c, rfl, ⟨heap_alloc_new _ _, (T3.alloc _).is, hT3.new_ok hb _, by show _ ≠ b; omega, by omega, Nat.le_refl _⟩, T3.alloc _, by
            rintro k (rfl | rfl | e)
            · exact .inr (by omega)
            · exact .inl rfl
            · exact .inr (Nat.le_of_lt (by have := hT3.own k e; omega))⟩
        · have Y := D.Sync_any b _ 0 _ T2.is hf
          rw [y0] at Y
          go_wp2_with fail
          refine Y.mono ?_; rintro e w3 ⟨rfl, T1⟩
          have hB3 := (T1.others _ (lt_of_block hB2) (by omega)).trans hB2
          have hT3 := hT2.across T1 hb
          have T3 := T2.trans T1
          clear T1 T2 hB2 hT2 z0 z1 z2 z3 z4 Y
          have z0 : w3.cell? ⟨w.heap.size, 0, none⟩ = some (.int .i64 (F.g : Int)) := by simp [World.cell?, hB3, fdv]
          have z1 : w3.cell? ⟨w.heap.size, 1, none⟩ = some (.int .i64 (F.q : Int)) := by simp [World.cell?, hB3, fdv]
          have z2 : w3.cell? ⟨w.heap.size, 2, none⟩ = some (.string F.st) := by simp [World.cell?, hB3, fdv]
          have z3 : w3.cell? ⟨w.heap.size, 3, none⟩ = some (.slice A F.l.length c) := by simp [World.cell?, hB3, fdv]
          have z4 : w3.cell? ⟨w.heap.size, 4, none⟩ = some (.int .i64 (F.en : Int)) := by simp [World.cell?, hB3, fdv]
          clear HL HS HC HY
          go_wp2_with fail
          go_ret2
          exact .inr ⟨y0, rfl, T3⟩
      · have hno : ((F.en : Int) < (X0.size : Int)) := by omega
        have Y := D.Cut_any b _ 0 (F.en : Int) _ T2.is hf
        rw [c0] at Y
        go_wp2_with fail
        refine Y.mono ?_; rintro e w3 ⟨rfl, T1⟩
        have hB3 := (T1.others _ (lt_of_block hB2) (by omega)).trans hB2
        have hT3 := hT2.across T1 hb
        have T3 := T2.trans T1
        clear T1 T2 hB2 hT2 z0 z1 z2 z3 z4 Y
        have z0 : w3.cell? ⟨w.heap.size, 0, none⟩ = some (.int .i64 (F.g : Int)) := by simp [World.cell?, hB3, fdv]
        have z1 : w3.cell? ⟨w.heap.size, 1, none⟩ = some (.int .i64 (F.q : Int)) := by simp [World.cell?, hB3, fdv]
        have z2 : w3.cell? ⟨w.heap.size, 2, none⟩ = some (.string F.st) := by simp [World.cell?, hB3, fdv]
        have z3 : w3.cell? ⟨w.heap.size, 3, none⟩ = some (.slice A F.l.length c) := by simp [World.cell?, hB3, fdv]
        have z4 : w3.cell? ⟨w.heap.size, 4, none⟩ = some (.int .i64 (F.en : Int)) := by simp [World.cell?, hB3, fdv]
        rcases HY.out with y0 | y0
        · have Y := D.Sync_any b _ 0 _ T3.is (cutD_fits hf _ _)
          rw [y0] at Y
          go_wp2_with fail
          refine Y.mono ?_; rintro e w4 ⟨rfl, T1⟩
          have hB4 := (T1.others _ (lt_of_block hB3) (by omega)).trans hB3
          have hT4 := hT3.across T1 hb
          have T4 := T3.trans T1
          clear T1 T3 hB3 hT3 z0 z1 z2 z3 z4 Y
          have z0 : w4.cell? ⟨w.heap.size, 0, none⟩ = some (.int .i64 (F.g : Int)) := by simp [World.cell?, hB4, fdv]
          have z1 : w4.cell? ⟨w.heap.size, 1, none⟩ = some (.int .i64 (F.q : Int)) := by simp [World.cell?, hB4, fdv]
          have z2 : w4.cell? ⟨w.heap.size, 2, none⟩ = some (.string F.st) := by simp [World.cell?, hB4, fdv]
          have z3 : w4.cell? ⟨w.heap.size, 3, none⟩ = some (.slice A F.l.length c) := by simp [World.cell?, hB4, fdv]
          have z4 : w4.cell? ⟨w.heap.size, 4, none⟩ = some (.int .i64 (F.en : Int)) := by simp [World.cell?, hB4, fdv]
          have hZ := T4.size
          have hl4 := lt_of_block hB4
          clear HL HS HC HY
          go_wp2_with fail
          go_ret2
          exact .inl ⟨y0, _, A, c, rfl, ⟨heap_alloc_new _ _, (T4.alloc _).is, hT4.new_ok hb _, by show _ ≠ b; omega, by omega, Nat.le_refl _⟩, T4.alloc _, by
            rintro k (rfl | rfl | e)
            · exact .inr (by omega)
            · exact .inl rfl
            · exact .inr (Nat.le_of_lt (by have := hT4.own k e; omega))⟩
        · have Y := D.Sync_any b _ 0 _ T3.is (cutD_fits hf _ _)
          rw [y0] at Y
          go_wp2_with fail
          refine Y.mono ?_; rintro e w4 ⟨rfl, T1⟩
          have hB4 := (T1.others _ (lt_of_block hB3) (by omega)).trans hB3
          have hT4 := hT3.across T1 hb
          have T4 := T3.trans T1
          clear T1 T3 hB3 hT3 z0 z1 z2 z3 z4 Y
          have z0 : w4.cell? ⟨w.heap.size, 0, none⟩ = some (.int .i64 (F.g : Int)) := by simp [World.cell?, hB4, fdv]
          have z1 : w4.cell? ⟨w.heap.size, 1, none⟩ = some (.int .i64 (F.q : Int)) := by simp [World.cell?, hB4, fdv]
          have z2 : w4.cell? ⟨w.heap.size, 2, none⟩ = some (.string F.st) := by simp [World.cell?, hB4, fdv]
          have z3 : w4.cell? ⟨w.heap.size, 3, none⟩ = some (.slice A F.l.length c) := by simp [World.cell?, hB4, fdv]
          have z4 : w4.cell? ⟨w.heap.size, 4, none⟩ = some (.int .i64 (F.en : Int)) := by simp [World.cell?, hB4, fdv]
          clear HL HS HC HY
          go_wp2_with fail
          go_ret2
          exact .inr ⟨y0, rfl, T4⟩
set_option maxRecDepth 100000 in
set_option maxHeartbeats 40000000 in
theorem open1n (b : Nat) (d d1 : Dk) (X0 X1 : ByteArray) (F : Fd) (w : World) (h : D.Is b d w) (hf : d.Fits) (r0 : rdy d 0 = 0) (r1 : rdy d 1 = 0) (e0 : allOf d 0 = X0) (e1 : allOf d 1 = X1) (t0 : Tells X0 (none)) (t1 : Tells X1 (some F))
    (hc : (F.en = X1.size ∧ d1 = d) ∨ (F.en < X1.size ∧ cutN d 1 F.en = 0 ∧ d1 = cutD d 1 F.en)) (hy : synN d1 1 = 0 ∨ synN d1 1 = 13) :
    Calls Try.prog 50 #[.pointer (some ⟨b, 0, none⟩)] w (OpenPost b 1 F d1 w) := by
  have hb := lt_of_block h
  have R0 := fun w' (h' : D.Is b d w') => D.Read_any b d 0 w' h' hf
  have R1 := fun w' (h' : D.Is b d w') => D.Read_any b d 1 w' h' hf
  have hs0 : X0.size ≤ 1048576 := by rw [← e0]; exact all_size d hf 0
  have hs1 : X1.size ≤ 1048576 := by rw [← e1]; exact all_size d hf 1
  have hlen : lenOf d 1 = X1.size := by rw [← e1]; exact len_all d 1
  have N0 := fun w' (h' : D.Is b d w') => D.Len_any b d 1 w' h' hf
  rw [hlen, r1] at N0
  rw [r0, e0] at R0
  rw [r1, e1] at R1
  have L0 := look_tells X0 _ t0 hs0
  have L1 := look_tells X1 _ t1 hs1
  have hg1 : 1 ≤ F.g := by obtain ⟨_, _, h1, _⟩ := t1; exact h1
  have HL := Lib.hid hlen
  have HS := Lib.hid hs1
  clear t0 t1 e0 e1 hs0 hs1 hlen r0 r1
  have HC := Lib.hid hc
  have HY := Lib.hid hy
  clear hc hy
  go_enter Try.func50, Try.ntmps50
  go_wp2_with fail
  go_loopw [5, 15] (fun fl i wr => ∃ (n : Int) (A : Option Addr) (c : Nat), 0 ≤ n ∧ n ≤ 2 ∧ i = .int .i64 n ∧ fl = .int .i64 (at3 (-1) (-1) 1 n.toNat) ∧ wr.heap[w.heap.size]? = some (.cells (fdv (at3 none (none) (some F) n.toNat) A c) 122 (0, 0)) ∧ Tl wr w.heap.size (fun k => k ≠ w.heap.size) (.slice A (lO (at3 none (none) (some F) n.toNat)).length c) (lO (at3 none (none) (some F) n.toNat)) ∧ D.Turn b d w wr) (fun fl i _ => (2 - intOf i).toNat)
  case atStart => exact ⟨0, none, 0, by omega, by omega, rfl, rfl, heap_alloc_new _ _, Tl.nil _ _ _, (D.Turn.refl h).alloc _⟩
  case round =>
    obtain ⟨n, A, c, hn0, hn2, rfl, rfl, hB, hT, T⟩ := hrel
    obtain rfl | rfl | rfl : n = 0 ∨ n = 1 ∨ n = 2 := by omega
    · replace hB : wr.heap[w.heap.size]? = some (.cells (fdv (none) A c) 122 (0, 0)) := hB
      replace hT : Tl wr w.heap.size (fun k => k ≠ w.heap.size) (.slice A (lO (none)).length c) (lO (none)) := hT
      simp only [at3, Int.toNat_zero]
      go_wp2_with fail
      refine (R0 _ T.is).mono ?_; rintro e w1 ⟨rfl, T1⟩
      have hB1 := (T1.others _ (lt_of_block hB) (by omega)).trans hB
      have hT1 := hT.across T1 hb
      have T2 := T.trans T1
      clear T1 T hB hT
      go_wp2_with fail
      refine (L0 _).mono ?_; rintro e w3 ⟨A3, c3, rfl, t3, b3⟩
      have hlt1 := lt_of_block hB1
      have hB3 := (b3.block _ hlt1).trans hB1
      have hT3 := hT1.below b3
      have T3 := turn_below T2 b3
      have t4 := (t3.oks (ok' := fun k => k ≠ w.heap.size) (fun k hk _ _ => by have := (t3.own k hk).2.1; omega)).low (B' := w.heap.size) (Nat.le_of_lt hlt1)
      have hlt3 := lt_of_block hB3
      clear T2 b3 hB1 hT1 t3 hlt1
      have z0 := fdv_0 hB3
      have P4 := (Below.heap_alloc w3 (.cells (fdv (none) A3 c3) 122) _ hlt3).trans hB3
      have U4 := hT3.below ((Below.refl _ _).alloc (Nat.le_refl _) (.cells (fdv (none) A3 c3) 122))
      have V4 := T3.alloc (.cells (fdv (none) A3 c3) 122)
      clear T3 hB3 hT3 t4
      simp only [gO] at z0
      simp only [fdv] at P4 U4 V4
      simp only [fdv, Option.isSome]
      have ZP := Lib.hid P4
      have ZU := Lib.hid U4
      have ZV := Lib.hid V4
      clear P4 U4 V4
      go_wp2_with fail
      go_roundw
      case rel => exact ⟨1, A, c, by omega, by omega, rfl, rfl, ZP.out, ZU.out, ZV.out⟩
      case measure => simp [intOf]
    · replace hB : wr.heap[w.heap.size]? = some (.cells (fdv (none) A c) 122 (0, 0)) := hB
      replace hT : Tl wr w.heap.size (fun k => k ≠ w.heap.size) (.slice A (lO (none)).length c) (lO (none)) := hT
      simp only [at3, Int.toNat_one]
      go_wp2_with fail
      refine (R1 _ T.is).mono ?_; rintro e w1 ⟨rfl, T1⟩
      have hB1 := (T1.others _ (lt_of_block hB) (by omega)).trans hB
      have hT1 := hT.across T1 hb
      have T2 := T.trans T1
      clear T1 T hB hT
      go_wp2_with fail
      refine (L1 _).mono ?_; rintro e w3 ⟨A3, c3, rfl, t3, b3⟩
      have hlt1 := lt_of_block hB1
      have hB3 := (b3.block _ hlt1).trans hB1
      have hT3 := hT1.below b3
      have T3 := turn_below T2 b3
      have t4 := (t3.oks (ok' := fun k => k ≠ w.heap.size) (fun k hk _ _ => by have := (t3.own k hk).2.1; omega)).low (B' := w.heap.size) (Nat.le_of_lt hlt1)
      have hlt3 := lt_of_block hB3
      clear T2 b3 hB1 hT1 t3 hlt1
      have z0 := fdv_0 hB3
      obtain ⟨v1, z1⟩ := fdv_c hB3 1 (by omega)
      obtain ⟨v2, z2⟩ := fdv_c hB3 2 (by omega)
      obtain ⟨v3, z3⟩ := fdv_c hB3 3 (by omega)
      obtain ⟨v4, z4⟩ := fdv_c hB3 4 (by omega)
      have f0 := fdv_f hB3 0
      have f1 := fdv_f hB3 1
      have f2 := fdv_f hB3 2
      have f3 := fdv_f hB3 3
      have f4 := fdv_f hB3 4
      have P := put_at (i := 4) (v := .int .i64 (F.en : Int)) (put_at (i := 3) (v := .slice A3 F.l.length c3) (put_at (i := 2) (v := .string F.st) (put_at (i := 1) (v := .int .i64 (F.q : Int)) (put_at (i := 0) (v := .int .i64 (F.g : Int)) hB3))))
      have U := t4.puts5 (.int .i64 (F.g : Int)) (.int .i64 (F.q : Int)) (.string F.st) (.slice A3 F.l.length c3) (.int .i64 (F.en : Int))
      have V := turn_puts5 hb T3 (.int .i64 (F.g : Int)) (.int .i64 (F.q : Int)) (.string F.st) (.slice A3 F.l.length c3) (.int .i64 (F.en : Int))
      have P4 := (Below.heap_alloc _ (.cells (fdv (some F) A3 c3) 122) _ (lt_of_block P)).trans P
      have U4 := U.below ((Below.refl _ _).alloc (Nat.le_refl _) (.cells (fdv (some F) A3 c3) 122))
      have V4 := V.alloc (.cells (fdv (some F) A3 c3) 122)
      clear P U V
      clear T3 hB3 hT3 t4
      simp only [gO] at z0
      simp only [fdv] at P4 U4 V4
      simp only [fdv, Option.isSome]
      have hlt : (0 : Int) < (F.g : Int) := by omega
      have ZP := Lib.hid P4
      have ZU := Lib.hid U4
      have ZV := Lib.hid V4
      clear P4 U4 V4
      go_wp2_with fail
      go_roundw
      case rel => exact ⟨2, A3, c3, by omega, by omega, rfl, rfl, ZP.out, ZU.out, ZV.out⟩
      case measure => simp [intOf]
    · replace hB : wr.heap[w.heap.size]? = some (.cells (fdv (some F) A c) 122 (0, 0)) := hB
      replace hT : Tl wr w.heap.size (fun k => k ≠ w.heap.size) (.slice A F.l.length c) F.l := hT
      simp only [at3, show Int.toNat 2 = 2 from rfl]
      go_wp2_with fail
      refine (N0 _ T.is).mono ?_; rintro e w1 ⟨rfl, T1⟩
      have hB2 := (T1.others _ (lt_of_block hB) (by omega)).trans hB
      have hT2 := hT.across T1 hb
      have T2 := T.trans T1
      clear T1 T hB hT R0 R1 L0 L1 N0
      have z0 : w1.cell? ⟨w.heap.size, 0, none⟩ = some (.int .i64 (F.g : Int)) := by simp [World.cell?, hB2, fdv]
      have z1 : w1.cell? ⟨w.heap.size, 1, none⟩ = some (.int .i64 (F.q : Int)) := by simp [World.cell?, hB2, fdv]
      have z2 : w1.cell? ⟨w.heap.size, 2, none⟩ = some (.string F.st) := by simp [World.cell?, hB2, fdv]
      have z3 : w1.cell? ⟨w.heap.size, 3, none⟩ = some (.slice A F.l.length c) := by simp [World.cell?, hB2, fdv]
      have z4 : w1.cell? ⟨w.heap.size, 4, none⟩ = some (.int .i64 (F.en : Int)) := by simp [World.cell?, hB2, fdv]
      rcases HC.out with ⟨he, rfl⟩ | ⟨he, c0, rfl⟩
      · have hno : ¬ ((F.en : Int) < (X1.size : Int)) := by omega
        rcases HY.out with y0 | y0
        · have Y := D.Sync_any b _ 1 _ T2.is hf
          rw [y0] at Y
          go_wp2_with fail
          refine Y.mono ?_; rintro e w3 ⟨rfl, T1⟩
          have hB3 := (T1.others _ (lt_of_block hB2) (by omega)).trans hB2
          have hT3 := hT2.across T1 hb
          have T3 := T2.trans T1
          clear T1 T2 hB2 hT2 z0 z1 z2 z3 z4 Y
          have z0 : w3.cell? ⟨w.heap.size, 0, none⟩ = some (.int .i64 (F.g : Int)) := by simp [World.cell?, hB3, fdv]
          have z1 : w3.cell? ⟨w.heap.size, 1, none⟩ = some (.int .i64 (F.q : Int)) := by simp [World.cell?, hB3, fdv]
          have z2 : w3.cell? ⟨w.heap.size, 2, none⟩ = some (.string F.st) := by simp [World.cell?, hB3, fdv]
          have z3 : w3.cell? ⟨w.heap.size, 3, none⟩ = some (.slice A F.l.length c) := by simp [World.cell?, hB3, fdv]
          have z4 : w3.cell? ⟨w.heap.size, 4, none⟩ = some (.int .i64 (F.en : Int)) := by simp [World.cell?, hB3, fdv]
          have hZ := T3.size
          have hl3 := lt_of_block hB3
          clear HL HS HC HY
          go_wp2_with fail
          go_ret2
          exact .inl ⟨y0, _, A, c, rfl, ⟨heap_alloc_new _ _, (T3.alloc _).is, hT3.new_ok hb _, by show _ ≠ b; omega, by omega, Nat.le_refl _⟩, T3.alloc _, by
            rintro k (rfl | rfl | e)
            · exact .inr (by omega)
            · exact .inl rfl
            · exact .inr (Nat.le_of_lt (by have := hT3.own k e; omega))⟩
        · have Y := D.Sync_any b _ 1 _ T2.is hf
          rw [y0] at Y
          go_wp2_with fail
          refine Y.mono ?_; rintro e w3 ⟨rfl, T1⟩
          have hB3 := (T1.others _ (lt_of_block hB2) (by omega)).trans hB2
          have hT3 := hT2.across T1 hb
          have T3 := T2.trans T1
          clear T1 T2 hB2 hT2 z0 z1 z2 z3 z4 Y
          have z0 : w3.cell? ⟨w.heap.size, 0, none⟩ = some (.int .i64 (F.g : Int)) := by simp [World.cell?, hB3, fdv]
          have z1 : w3.cell? ⟨w.heap.size, 1, none⟩ = some (.int .i64 (F.q : Int)) := by simp [World.cell?, hB3, fdv]
          have z2 : w3.cell? ⟨w.heap.size, 2, none⟩ = some (.string F.st) := by simp [World.cell?, hB3, fdv]
          have z3 : w3.cell? ⟨w.heap.size, 3, none⟩ = some (.slice A F.l.length c) := by simp [World.cell?, hB3, fdv]
          have z4 : w3.cell? ⟨w.heap.size, 4, none⟩ = some (.int .i64 (F.en : Int)) := by simp [World.cell?, hB3, fdv]
          clear HL HS HC HY
          go_wp2_with fail
          go_ret2
          exact .inr ⟨y0, rfl, T3⟩
      · have hno : ((F.en : Int) < (X1.size : Int)) := by omega
        have Y := D.Cut_any b _ 1 (F.en : Int) _ T2.is hf
        rw [c0] at Y
        go_wp2_with fail
        refine Y.mono ?_; rintro e w3 ⟨rfl, T1⟩
        have hB3 := (T1.others _ (lt_of_block hB2) (by omega)).trans hB2
        have hT3 := hT2.across T1 hb
        have T3 := T2.trans T1
        clear T1 T2 hB2 hT2 z0 z1 z2 z3 z4 Y
        have z0 : w3.cell? ⟨w.heap.size, 0, none⟩ = some (.int .i64 (F.g : Int)) := by simp [World.cell?, hB3, fdv]
        have z1 : w3.cell? ⟨w.heap.size, 1, none⟩ = some (.int .i64 (F.q : Int)) := by simp [World.cell?, hB3, fdv]
        have z2 : w3.cell? ⟨w.heap.size, 2, none⟩ = some (.string F.st) := by simp [World.cell?, hB3, fdv]
        have z3 : w3.cell? ⟨w.heap.size, 3, none⟩ = some (.slice A F.l.length c) := by simp [World.cell?, hB3, fdv]
        have z4 : w3.cell? ⟨w.heap.size, 4, none⟩ = some (.int .i64 (F.en : Int)) := by simp [World.cell?, hB3, fdv]
        rcases HY.out with y0 | y0
        · have Y := D.Sync_any b _ 1 _ T3.is (cutD_fits hf _ _)
          rw [y0] at Y
          go_wp2_with fail
          refine Y.mono ?_; rintro e w4 ⟨rfl, T1⟩
          have hB4 := (T1.others _ (lt_of_block hB3) (by omega)).trans hB3
          have hT4 := hT3.across T1 hb
          have T4 := T3.trans T1
          clear T1 T3 hB3 hT3 z0 z1 z2 z3 z4 Y
          have z0 : w4.cell? ⟨w.heap.size, 0, none⟩ = some (.int .i64 (F.g : Int)) := by simp [World.cell?, hB4, fdv]
          have z1 : w4.cell? ⟨w.heap.size, 1, none⟩ = some (.int .i64 (F.q : Int)) := by simp [World.cell?, hB4, fdv]
          have z2 : w4.cell? ⟨w.heap.size, 2, none⟩ = some (.string F.st) := by simp [World.cell?, hB4, fdv]
          have z3 : w4.cell? ⟨w.heap.size, 3, none⟩ = some (.slice A F.l.length c) := by simp [World.cell?, hB4, fdv]
          have z4 : w4.cell? ⟨w.heap.size, 4, none⟩ = some (.int .i64 (F.en : Int)) := by simp [World.cell?, hB4, fdv]
          have hZ := T4.size
          have hl4 := lt_of_block hB4
          clear HL HS HC HY
          go_wp2_with fail
          go_ret2
          exact .inl ⟨y0, _, A, c, rfl, ⟨heap_alloc_new _ _, (T4.alloc _).is, hT4.new_ok hb _, by show _ ≠ b; omega, by omega, Nat.le_refl _⟩, T4.alloc _, by
            rintro k (rfl | rfl | e)
            · exact .inr (by omega)
            · exact .inl rfl
            · exact .inr (Nat.le_of_lt (by have := hT4.own k e; omega))⟩
        · have Y := D.Sync_any b _ 1 _ T3.is (cutD_fits hf _ _)
          rw [y0] at Y
          go_wp2_with fail
          refine Y.mono ?_; rintro e w4 ⟨rfl, T1⟩
          have hB4 := (T1.others _ (lt_of_block hB3) (by omega)).trans hB3
          have hT4 := hT3.across T1 hb
          have T4 := T3.trans T1
          clear T1 T3 hB3 hT3 z0 z1 z2 z3 z4 Y
          have z0 : w4.cell? ⟨w.heap.size, 0, none⟩ = some (.int .i64 (F.g : Int)) := by simp [World.cell?, hB4, fdv]
          have z1 : w4.cell? ⟨w.heap.size, 1, none⟩ = some (.int .i64 (F.q : Int)) := by simp [World.cell?, hB4, fdv]
          have z2 : w4.cell? ⟨w.heap.size, 2, none⟩ = some (.string F.st) := by simp [World.cell?, hB4, fdv]
          have z3 : w4.cell? ⟨w.heap.size, 3, none⟩ = some (.slice A F.l.length c) := by simp [World.cell?, hB4, fdv]
          have z4 : w4.cell? ⟨w.heap.size, 4, none⟩ = some (.int .i64 (F.en : Int)) := by simp [World.cell?, hB4, fdv]
          clear HL HS HC HY
          go_wp2_with fail
          go_ret2
          exact .inr ⟨y0, rfl, T4⟩
set_option maxRecDepth 100000 in
set_option maxHeartbeats 40000000 in
theorem open1G (b : Nat) (d d1 : Dk) (X0 X1 : ByteArray) (F G : Fd) (w : World) (h : D.Is b d w) (hf : d.Fits) (r0 : rdy d 0 = 0) (r1 : rdy d 1 = 0) (e0 : allOf d 0 = X0) (e1 : allOf d 1 = X1) (t0 : Tells X0 (some G)) (t1 : Tells X1 (some F)) (hg : G.g < F.g)
    (hc : (F.en = X1.size ∧ d1 = d) ∨ (F.en < X1.size ∧ cutN d 1 F.en = 0 ∧ d1 = cutD d 1 F.en)) (hy : synN d1 1 = 0 ∨ synN d1 1 = 13) :
    Calls Try.prog 50 #[.pointer (some ⟨b, 0, none⟩)] w (OpenPost b 1 F d1 w) := by
  have hb := lt_of_block h
  have R0 := fun w' (h' : D.Is b d w') => D.Read_any b d 0 w' h' hf
  have R1 := fun w' (h' : D.Is b d w') => D.Read_any b d 1 w' h' hf
  have hs0 : X0.size ≤ 1048576 := by rw [← e0]; exact all_size d hf 0
  have hs1 : X1.size ≤ 1048576 := by rw [← e1]; exact all_size d hf 1
  have hlen : lenOf d 1 = X1.size := by rw [← e1]; exact len_all d 1
  have N0 := fun w' (h' : D.Is b d w') => D.Len_any b d 1 w' h' hf
  rw [hlen, r1] at N0
  rw [r0, e0] at R0
  rw [r1, e1] at R1
  have L0 := look_tells X0 _ t0 hs0
  have L1 := look_tells X1 _ t1 hs1
  have hg1 : 1 ≤ F.g := by obtain ⟨_, _, h1, _⟩ := t1; exact h1
  have hg2 : 1 ≤ G.g := by obtain ⟨_, _, h1, _⟩ := t0; exact h1
  have HL := Lib.hid hlen
  have HS := Lib.hid hs1
  clear t0 t1 e0 e1 hs0 hs1 hlen r0 r1
  have HC := Lib.hid hc
  have HY := Lib.hid hy
  clear hc hy
  go_enter Try.func50, Try.ntmps50
  go_wp2_with fail
  go_loopw [5, 15] (fun fl i wr => ∃ (n : Int) (A : Option Addr) (c : Nat), 0 ≤ n ∧ n ≤ 2 ∧ i = .int .i64 n ∧ fl = .int .i64 (at3 (-1) 0 1 n.toNat) ∧ wr.heap[w.heap.size]? = some (.cells (fdv (at3 none (some G) (some F) n.toNat) A c) 122 (0, 0)) ∧ Tl wr w.heap.size (fun k => k ≠ w.heap.size) (.slice A (lO (at3 none (some G) (some F) n.toNat)).length c) (lO (at3 none (some G) (some F) n.toNat)) ∧ D.Turn b d w wr) (fun fl i _ => (2 - intOf i).toNat)
  case atStart => exact ⟨0, none, 0, by omega, by omega, rfl, rfl, heap_alloc_new _ _, Tl.nil _ _ _, (D.Turn.refl h).alloc _⟩
  case round =>
    obtain ⟨n, A, c, hn0, hn2, rfl, rfl, hB, hT, T⟩ := hrel
    obtain rfl | rfl | rfl : n = 0 ∨ n = 1 ∨ n = 2 := by omega
    · replace hB : wr.heap[w.heap.size]? = some (.cells (fdv (none) A c) 122 (0, 0)) := hB
      replace hT : Tl wr w.heap.size (fun k => k ≠ w.heap.size) (.slice A (lO (none)).length c) (lO (none)) := hT
      simp only [at3, Int.toNat_zero]
      go_wp2_with fail
      refine (R0 _ T.is).mono ?_; rintro e w1 ⟨rfl, T1⟩
      have hB1 := (T1.others _ (lt_of_block hB) (by omega)).trans hB
      have hT1 := hT.across T1 hb
      have T2 := T.trans T1
      clear T1 T hB hT
      go_wp2_with fail
      refine (L0 _).mono ?_; rintro e w3 ⟨A3, c3, rfl, t3, b3⟩
      have hlt1 := lt_of_block hB1
      have hB3 := (b3.block _ hlt1).trans hB1
      have hT3 := hT1.below b3
      have T3 := turn_below T2 b3
      have t4 := (t3.oks (ok' := fun k => k ≠ w.heap.size) (fun k hk _ _ => by have := (t3.own k hk).2.1; omega)).low (B' := w.heap.size) (Nat.le_of_lt hlt1)
      have hlt3 := lt_of_block hB3
      clear T2 b3 hB1 hT1 t3 hlt1
      have z0 := fdv_0 hB3
      obtain ⟨v1, z1⟩ := fdv_c hB3 1 (by omega)
      obtain ⟨v2, z2⟩ := fdv_c hB3 2 (by omega)
      obtain ⟨v3, z3⟩ := fdv_c hB3 3 (by omega)
      obtain ⟨v4, z4⟩ := fdv_c hB3 4 (by omega)
      have f0 := fdv_f hB3 0
      have f1 := fdv_f hB3 1
      have f2 := fdv_f hB3 2
      have f3 := fdv_f hB3 3
      have f4 := fdv_f hB3 4
      have P := put_at (i := 4) (v := .int .i64 (G.en : Int)) (put_at (i := 3) (v := .slice A3 G.l.length c3) (put_at (i := 2) (v := .string G.st) (put_at (i := 1) (v := .int .i64 (G.q : Int)) (put_at (i := 0) (v := .int .i64 (G.g : Int)) hB3))))
      have U := t4.puts5 (.int .i64 (G.g : Int)) (.int .i64 (G.q : Int)) (.string G.st) (.slice A3 G.l.length c3) (.int .i64 (G.en : Int))
      have V := turn_puts5 hb T3 (.int .i64 (G.g : Int)) (.int .i64 (G.q : Int)) (.string G.st) (.slice A3 G.l.length c3) (.int .i64 (G.en : Int))
      have P4 := (Below.heap_alloc _ (.cells (fdv (some G) A3 c3) 122) _ (lt_of_block P)).trans P
      have U4 := U.below ((Below.refl _ _).alloc (Nat.le_refl _) (.cells (fdv (some G) A3 c3) 122))
      have V4 := V.alloc (.cells (fdv (some G) A3 c3) 122)
      clear P U V
      clear T3 hB3 hT3 t4
      simp only [gO] at z0
      simp only [fdv] at P4 U4 V4
      simp only [fdv, Option.isSome]
      have hlt : (0 : Int) < (G.g : Int) := by omega
      have ZP := Lib.hid P4
      have ZU := Lib.hid U4
      have ZV := Lib.hid V4
      clear P4 U4 V4
      go_wp2_with fail
      go_roundw
      case rel => exact ⟨1, A3, c3, by omega, by omega, rfl, rfl, ZP.out, ZU.out, ZV.out⟩
      case measure => simp [intOf]
    · replace hB : wr.heap[w.heap.size]? = some (.cells (fdv (some G) A c) 122 (0, 0)) := hB
      replace hT : Tl wr w.heap.size (fun k => k ≠ w.heap.size) (.slice A (lO (some G)).length c) (lO (some G)) := hT
      simp only [at3, Int.toNat_one]
      go_wp2_with fail
      refine (R1 _ T.is).mono ?_; rintro e w1 ⟨rfl, T1⟩
      have hB1 := (T1.others _ (lt_of_block hB) (by omega)).trans hB
      have hT1 := hT.across T1 hb
      have T2 := T.trans T1
      clear T1 T hB hT
      go_wp2_with fail
      refine (L1 _).mono ?_; rintro e w3 ⟨A3, c3, rfl, t3, b3⟩
      have hlt1 := lt_of_block hB1
      have hB3 := (b3.block _ hlt1).trans hB1
      have hT3 := hT1.below b3
      have T3 := turn_below T2 b3
      have t4 := (t3.oks (ok' := fun k => k ≠ w.heap.size) (fun k hk _ _ => by have := (t3.own k hk).2.1; omega)).low (B' := w.heap.size) (Nat.le_of_lt hlt1)
      have hlt3 := lt_of_block hB3
      clear T2 b3 hB1 hT1 t3 hlt1
      have z0 := fdv_0 hB3
      obtain ⟨v1, z1⟩ := fdv_c hB3 1 (by omega)
      obtain ⟨v2, z2⟩ := fdv_c hB3 2 (by omega)
      obtain ⟨v3, z3⟩ := fdv_c hB3 3 (by omega)
      obtain ⟨v4, z4⟩ := fdv_c hB3 4 (by omega)
      have f0 := fdv_f hB3 0
      have f1 := fdv_f hB3 1
      have f2 := fdv_f hB3 2
      have f3 := fdv_f hB3 3
      have f4 := fdv_f hB3 4
      have P := put_at (i := 4) (v := .int .i64 (F.en : Int)) (put_at (i := 3) (v := .slice A3 F.l.length c3) (put_at (i := 2) (v := .string F.st) (put_at (i := 1) (v := .int .i64 (F.q : Int)) (put_at (i := 0) (v := .int .i64 (F.g : Int)) hB3))))
      have U := t4.puts5 (.int .i64 (F.g : Int)) (.int .i64 (F.q : Int)) (.string F.st) (.slice A3 F.l.length c3) (.int .i64 (F.en : Int))
      have V := turn_puts5 hb T3 (.int .i64 (F.g : Int)) (.int .i64 (F.q : Int)) (.string F.st) (.slice A3 F.l.length c3) (.int .i64 (F.en : Int))
      have P4 := (Below.heap_alloc _ (.cells (fdv (some F) A3 c3) 122) _ (lt_of_block P)).trans P
      have U4 := U.below ((Below.refl _ _).alloc (Nat.le_refl _) (.cells (fdv (some F) A3 c3) 122))
      have V4 := V.alloc (.cells (fdv (some F) A3 c3) 122)
      clear P U V
      clear T3 hB3 hT3 t4
      simp only [gO] at z0
      simp only [fdv] at P4 U4 V4
      simp only [fdv, Option.isSome]
      have hlt : ((G.g : Int) : Int) < (F.g : Int) := by omega
      have ZP := Lib.hid P4
      have ZU := Lib.hid U4
      have ZV := Lib.hid V4
      clear P4 U4 V4
      go_wp2_with fail
      go_roundw
      case rel => exact ⟨2, A3, c3, by omega, by omega, rfl, rfl, ZP.out, ZU.out, ZV.out⟩
      case measure => simp [intOf]
    · replace hB : wr.heap[w.heap.size]? = some (.cells (fdv (some F) A c) 122 (0, 0)) := hB
      replace hT : Tl wr w.heap.size (fun k => k ≠ w.heap.size) (.slice A F.l.length c) F.l := hT
      simp only [at3, show Int.toNat 2 = 2 from rfl]
      go_wp2_with fail
      refine (N0 _ T.is).mono ?_; rintro e w1 ⟨rfl, T1⟩
      have hB2 := (T1.others _ (lt_of_block hB) (by omega)).trans hB
      have hT2 := hT.across T1 hb
      have T2 := T.trans T1
      clear T1 T hB hT R0 R1 L0 L1 N0
      have z0 : w1.cell? ⟨w.heap.size, 0, none⟩ = some (.int .i64 (F.g : Int)) := by simp [World.cell?, hB2, fdv]
      have z1 : w1.cell? ⟨w.heap.size, 1, none⟩ = some (.int .i64 (F.q : Int)) := by simp [World.cell?, hB2, fdv]
      have z2 : w1.cell? ⟨w.heap.size, 2, none⟩ = some (.string F.st) := by simp [World.cell?, hB2, fdv]
      have z3 : w1.cell? ⟨w.heap.size, 3, none⟩ = some (.slice A F.l.length c) := by simp [World.cell?, hB2, fdv]
      have z4 : w1.cell? ⟨w.heap.size, 4, none⟩ = some (.int .i64 (F.en : Int)) := by simp [World.cell?, hB2, fdv]
      rcases HC.out with ⟨he, rfl⟩ | ⟨he, c0, rfl⟩
      · have hno : ¬ ((F.en : Int) < (X1.size : Int)) := by omega
        rcases HY.out with y0 | y0
        · have Y := D.Sync_any b _ 1 _ T2.is hf
          rw [y0] at Y
          go_wp2_with fail
          refine Y.mono ?_; rintro e w3 ⟨rfl, T1⟩
          have hB3 := (T1.others _ (lt_of_block hB2) (by omega)).trans hB2
          have hT3 := hT2.across T1 hb
          have T3 := T2.trans T1
          clear T1 T2 hB2 hT2 z0 z1 z2 z3 z4 Y
          have z0 : w3.cell? ⟨w.heap.size, 0, none⟩ = some (.int .i64 (F.g : Int)) := by simp [World.cell?, hB3, fdv]
          have z1 : w3.cell? ⟨w.heap.size, 1, none⟩ = some (.int .i64 (F.q : Int)) := by simp [World.cell?, hB3, fdv]
          have z2 : w3.cell? ⟨w.heap.size, 2, none⟩ = some (.string F.st) := by simp [World.cell?, hB3, fdv]
          have z3 : w3.cell? ⟨w.heap.size, 3, none⟩ = some (.slice A F.l.length c) := by simp [World.cell?, hB3, fdv]
          have z4 : w3.cell? ⟨w.heap.size, 4, none⟩ = some (.int .i64 (F.en : Int)) := by simp [World.cell?, hB3, fdv]
          have hZ := T3.size
          have hl3 := lt_of_block hB3
          clear HL HS HC HY
          go_wp2_with fail
          go_ret2
          exact .inl ⟨y0, _, A, c, rfl, ⟨heap_alloc_new _ _, (T3.alloc _).is, hT3.new_ok hb _, by show _ ≠ b; omega, by omega, Nat.le_refl _⟩, T3.alloc _, by
            rintro k (rfl | rfl | e)
            · exact .inr (by omega)
            · exact .inl rfl
            · exact .inr (Nat.le_of_lt (by have := hT3.own k e; omega))⟩
        · have Y := D.Sync_any b _ 1 _ T2.is hf
          rw [y0] at Y
          go_wp2_with fail
          refine Y.mono ?_; rintro e w3 ⟨rfl, T1⟩
          have hB3 := (T1.others _ (lt_of_block hB2) (by omega)).trans hB2
          have hT3 := hT2.across T1 hb
          have T3 := T2.trans T1
          clear T1 T2 hB2 hT2 z0 z1 z2 z3 z4 Y
          have z0 : w3.cell? ⟨w.heap.size, 0, none⟩ = some (.int .i64 (F.g : Int)) := by simp [World.cell?, hB3, fdv]
          have z1 : w3.cell? ⟨w.heap.size, 1, none⟩ = some (.int .i64 (F.q : Int)) := by simp [World.cell?, hB3, fdv]
          have z2 : w3.cell? ⟨w.heap.size, 2, none⟩ = some (.string F.st) := by simp [World.cell?, hB3, fdv]
          have z3 : w3.cell? ⟨w.heap.size, 3, none⟩ = some (.slice A F.l.length c) := by simp [World.cell?, hB3, fdv]
          have z4 : w3.cell? ⟨w.heap.size, 4, none⟩ = some (.int .i64 (F.en : Int)) := by simp [World.cell?, hB3, fdv]
          clear HL HS HC HY
          go_wp2_with fail
          go_ret2
          exact .inr ⟨y0, rfl, T3⟩
      · have hno : ((F.en : Int) < (X1.size : Int)) := by omega
        have Y := D.Cut_any b _ 1 (F.en : Int) _ T2.is hf
        rw [c0] at Y
        go_wp2_with fail
        refine Y.mono ?_; rintro e w3 ⟨rfl, T1⟩
        have hB3 := (T1.others _ (lt_of_block hB2) (by omega)).trans hB2
        have hT3 := hT2.across T1 hb
        have T3 := T2.trans T1
        clear T1 T2 hB2 hT2 z0 z1 z2 z3 z4 Y
        have z0 : w3.cell? ⟨w.heap.size, 0, none⟩ = some (.int .i64 (F.g : Int)) := by simp [World.cell?, hB3, fdv]
        have z1 : w3.cell? ⟨w.heap.size, 1, none⟩ = some (.int .i64 (F.q : Int)) := by simp [World.cell?, hB3, fdv]
        have z2 : w3.cell? ⟨w.heap.size, 2, none⟩ = some (.string F.st) := by simp [World.cell?, hB3, fdv]
        have z3 : w3.cell? ⟨w.heap.size, 3, none⟩ = some (.slice A F.l.length c) := by simp [World.cell?, hB3, fdv]
        have z4 : w3.cell? ⟨w.heap.size, 4, none⟩ = some (.int .i64 (F.en : Int)) := by simp [World.cell?, hB3, fdv]
        rcases HY.out with y0 | y0
        · have Y := D.Sync_any b _ 1 _ T3.is (cutD_fits hf _ _)
          rw [y0] at Y
          go_wp2_with fail
          refine Y.mono ?_; rintro e w4 ⟨rfl, T1⟩
          have hB4 := (T1.others _ (lt_of_block hB3) (by omega)).trans hB3
          have hT4 := hT3.across T1 hb
          have T4 := T3.trans T1
          clear T1 T3 hB3 hT3 z0 z1 z2 z3 z4 Y
          have z0 : w4.cell? ⟨w.heap.size, 0, none⟩ = some (.int .i64 (F.g : Int)) := by simp [World.cell?, hB4, fdv]
          have z1 : w4.cell? ⟨w.heap.size, 1, none⟩ = some (.int .i64 (F.q : Int)) := by simp [World.cell?, hB4, fdv]
          have z2 : w4.cell? ⟨w.heap.size, 2, none⟩ = some (.string F.st) := by simp [World.cell?, hB4, fdv]
          have z3 : w4.cell? ⟨w.heap.size, 3, none⟩ = some (.slice A F.l.length c) := by simp [World.cell?, hB4, fdv]
          have z4 : w4.cell? ⟨w.heap.size, 4, none⟩ = some (.int .i64 (F.en : Int)) := by simp [World.cell?, hB4, fdv]
          have hZ := T4.size
          have hl4 := lt_of_block hB4
          clear HL HS HC HY
          go_wp2_with fail
          go_ret2
          exact .inl ⟨y0, _, A, c, rfl, ⟨heap_alloc_new _ _, (T4.alloc _).is, hT4.new_ok hb _, by show _ ≠ b; omega, by omega, Nat.le_refl _⟩, T4.alloc _, by
            rintro k (rfl | rfl | e)
            · exact .inr (by omega)
            · exact .inl rfl
            · exact .inr (Nat.le_of_lt (by have := hT4.own k e; omega))⟩
        · have Y := D.Sync_any b _ 1 _ T3.is (cutD_fits hf _ _)
          rw [y0] at Y
          go_wp2_with fail
          refine Y.mono ?_; rintro e w4 ⟨rfl, T1⟩
          have hB4 := (T1.others _ (lt_of_block hB3) (by omega)).trans hB3
          have hT4 := hT3.across T1 hb
          have T4 := T3.trans T1
          clear T1 T3 hB3 hT3 z0 z1 z2 z3 z4 Y
          have z0 : w4.cell? ⟨w.heap.size, 0, none⟩ = some (.int .i64 (F.g : Int)) := by simp [World.cell?, hB4, fdv]
          have z1 : w4.cell? ⟨w.heap.size, 1, none⟩ = some (.int .i64 (F.q : Int)) := by simp [World.cell?, hB4, fdv]
          have z2 : w4.cell? ⟨w.heap.size, 2, none⟩ = some (.string F.st) := by simp [World.cell?, hB4, fdv]
          have z3 : w4.cell? ⟨w.heap.size, 3, none⟩ = some (.slice A F.l.length c) := by simp [World.cell?, hB4, fdv]
          have z4 : w4.cell? ⟨w.heap.size, 4, none⟩ = some (.int .i64 (F.en : Int)) := by simp [World.cell?, hB4, fdv]
          clear HL HS HC HY
          go_wp2_with fail
          go_ret2
          exact .inr ⟨y0, rfl, T4⟩
end Go.Proofs.Ytejfdiiennnjjaa.J
