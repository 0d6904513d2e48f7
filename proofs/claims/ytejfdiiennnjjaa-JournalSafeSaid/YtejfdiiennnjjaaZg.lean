/- No journal: nil, and one that was not made; look at a text without bytes; Open of no disk, and of one without a journal. A journal's file read again: seven bytes' number; the records of what lies in a file. journal's look, where a journal lies. A journal's file: its records, read again. look at a journal's file. -/
import Derived.Test.YtejfdiiennnjjaaZf
import Derived.Laws.ResultCell
import Derived.Laws.Rows
import Derived.Lib.EndianBits
import Derived.Deep.RegionHeld3
import Derived.Deep.CutBlock
import Derived.Deep.DeepCutAuto
namespace Go.Proofs.Ytejfdiiennnjjaa.J
open Go.RowKit Go.Proofs Go.Proofs.Ytejfdiiennnjjaa Go.Proofs.YtejfdiiennnjjaaW.PrintWords Go.Proofs.Ytejfdiiennnjjaa.D
set_option linter.unusedVariables false

def noCells : Array Value := #[.pointer none, .int .i64 0, .int .i64 0, .int .i64 0, .string ⟨#[]⟩, .slice none 0 0, .bool false]
/-- A journal that was not made. -/
def No (b : Nat) (w : World) : Prop := w.heap[b]? = some (.cells noCells 89 (0, 0))
section
variable {b : Nat} {w : World}
theorem No.c0 (h : No b w) : w.cell? ⟨b, 0, none⟩ = some (.pointer none) := by unfold No at h; simp [World.cell?, h, noCells]
theorem No.c3 (h : No b w) : w.cell? ⟨b, 3, none⟩ = some (.int .i64 0) := by unfold No at h; simp [World.cell?, h, noCells]
theorem No.c4 (h : No b w) : w.cell? ⟨b, 4, none⟩ = some (.string ⟨#[]⟩) := by unfold No at h; simp [World.cell?, h, noCells]
theorem No.c5 (h : No b w) : w.cell? ⟨b, 5, none⟩ = some (.slice none 0 0) := by unfold No at h; simp [World.cell?, h, noCells]
set_option maxRecDepth 100000 in
theorem ready_no (h : No b w) : Calls Try.prog 68 #[.pointer (some ⟨b, 0, none⟩)] w fun e w' => e = .returned (.int .i64 3) ∧ w' = w := by
  have c0 := h.c0
  go_enter Try.func68, Try.ntmps68
  go_wp2
  go_ret
  exact ⟨rfl, rfl⟩
set_option maxRecDepth 100000 in
theorem State_no (h : No b w) : Calls Try.prog 46 #[.pointer (some ⟨b, 0, none⟩)] w fun e w' => e = .returned (.string ⟨#[]⟩) ∧ w' = w := by
  have c4 := h.c4
  go_enter Try.func46, Try.ntmps46
  go_wp2
  go_ret
  exact ⟨rfl, rfl⟩
set_option maxRecDepth 100000 in
set_option maxHeartbeats 4000000 in
theorem Seq_no (h : No b w) : Calls Try.prog 48 #[.pointer (some ⟨b, 0, none⟩)] w fun e w' => e = .returned (.int .i64 0) ∧ ∃ q, w' = w.drewN q := by
  have c3 := h.c3
  have c5 := h.c5
  go_enter Try.func48, Try.ntmps48
  go_wp2_with fail
  go_region
  all_goals go_wp2
  all_goals go_ret
  all_goals exact ⟨rfl, _, rfl⟩
set_option maxRecDepth 100000 in
set_option maxHeartbeats 4000000 in
theorem Commands_no (h : No b w) : Calls Try.prog 47 #[.pointer (some ⟨b, 0, none⟩)] w fun e w' => ∃ A c, e = .returned (.slice A 0 c) ∧ Below w.heap.size w w' := by
  have c5 := h.c5
  clear h
  go_enter Try.func47, Try.ntmps47
  go_wp2
  go_ret
  exact ⟨_, _, rfl, Below.refl _ _⟩
set_option maxRecDepth 100000 in
theorem Add_nil (cmd : ByteArray) (w : World) : Calls Try.prog 44 #[.pointer none, .string cmd] w fun e w' => e = .returned (.int .i64 3) ∧ w' = w := by
  go_enter Try.func44, Try.ntmps44
  go_wp2_with fail
  refine (ready_nil _).mono ?_; rintro e w' ⟨rfl, rfl⟩
  go_wp2
  go_ret
  exact ⟨rfl, rfl⟩
set_option maxRecDepth 100000 in
theorem Add_no (cmd : ByteArray) (h : No b w) : Calls Try.prog 44 #[.pointer (some ⟨b, 0, none⟩), .string cmd] w fun e w' => e = .returned (.int .i64 3) ∧ w' = w := by
  go_enter Try.func44, Try.ntmps44
  go_wp2_with fail
  refine (ready_no h).mono ?_; rintro e w' ⟨rfl, rfl⟩
  go_wp2
  go_ret
  exact ⟨rfl, rfl⟩
set_option maxRecDepth 100000 in
theorem Turn_nil (cmd : ByteArray) (w : World) : Calls Try.prog 45 #[.pointer none, .string cmd] w fun e w' => e = .returned (.int .i64 3) ∧ w' = w := by
  go_enter Try.func45, Try.ntmps45
  go_wp2_with fail
  refine (ready_nil _).mono ?_; rintro e w' ⟨rfl, rfl⟩
  go_wp2
  go_ret
  exact ⟨rfl, rfl⟩
set_option maxRecDepth 100000 in
theorem Turn_no (cmd : ByteArray) (h : No b w) : Calls Try.prog 45 #[.pointer (some ⟨b, 0, none⟩), .string cmd] w fun e w' => e = .returned (.int .i64 3) ∧ w' = w := by
  go_enter Try.func45, Try.ntmps45
  go_wp2_with fail
  refine (ready_no h).mono ?_; rintro e w' ⟨rfl, rfl⟩
  go_wp2
  go_ret
  exact ⟨rfl, rfl⟩
set_option maxRecDepth 100000 in
theorem Room_nil  (w : World) : Calls Try.prog 49 #[.pointer none] w fun e w' => e = .returned (.int .i64 0) ∧ w' = w := by
  go_enter Try.func49, Try.ntmps49
  go_wp2_with fail
  refine (ready_nil _).mono ?_; rintro e w' ⟨rfl, rfl⟩
  go_wp2
  go_ret
  exact ⟨rfl, rfl⟩
set_option maxRecDepth 100000 in
theorem Room_no  (h : No b w) : Calls Try.prog 49 #[.pointer (some ⟨b, 0, none⟩)] w fun e w' => e = .returned (.int .i64 0) ∧ w' = w := by
  go_enter Try.func49, Try.ntmps49
  go_wp2_with fail
  refine (ready_no h).mono ?_; rintro e w' ⟨rfl, rfl⟩
  go_wp2
  go_ret
  exact ⟨rfl, rfl⟩
end
theorem resF {fn : Func} {p u : Tmp} (h : fn.results = #[.cell p 122, .tmp u]) (tmps : Array Value) (b : Nat) (cs : Array Value) (hc : cs.size = 5) (v : Value) (w : World) (hp : tmps.getD p undef = .pointer (some ⟨b, 0, none⟩)) (hu : tmps.getD u undef = v)
    (hb : w.heap[b]? = some (.cells cs 122 (0, 0))) : (results fn tmps).run Try.prog w = .ok (.tuple #[.agg cs, v]) w := by
  have hl := run_loadVar_row (P := Try.prog) w b 122 122 cs (0, 0) _ hb Try.underlying122 rfl (by rw [hc]; kernel_rfl)
  rw [results_cell_tmp h, hp, hu]
  simp only [asAddr, Sem.run_pure, Result.andThen]
  rw [hl]
theorem put_at {w : World} {p i : Nat} {X : Array Value} {ty : TypeId} {v : Value} (h : w.heap[p]? = some (.cells X ty (0, 0))) : (w.setCell ⟨p, i, none⟩ v).heap[p]? = some (.cells (X.setIfInBounds i v) ty (0, 0)) := by
  have hlt := lt_of_block h
  have h' : w.heap[p] = .cells X ty (0, 0) := by simpa [Array.getElem?_eq_getElem hlt] using h
  show (w.heap.modify p _)[p]? = _
  rw [Array.getElem?_eq_getElem (by simpa using hlt), Array.getElem_modify_self, h']
  rfl
def none_found : Array Value := #[.int .i64 0, .int .i64 0, .string ⟨#[]⟩, .slice none 0 0, .int .i64 0]
set_option maxRecDepth 100000 in
set_option maxHeartbeats 4000000 in
theorem look_none (w : World) : Calls Try.prog 70 #[.string ⟨#[]⟩] w fun e w' => e = .returned (.tuple #[.agg none_found, .bool false]) ∧ Below w.heap.size w w' := by
  have R : ∀ w, Calls Try.prog 28 #[.string ⟨#[]⟩] w fun e w' => ∃ v0_ : Value, e = .returned (.tuple #[v0_, .int .i64 0, .int .i64 0]) ∧ Kd.R Kd.string 9 w' w.heap.size (fun _ => True) v0_ ([] : List ByteArray) ∧ Below w.heap.size w w' := fun w => by
    refine F.frame_Read.calls 1 ⟨#[]⟩ [] 0 0 w ?_
    rfl
  go_enter Try.func70, Try.ntmps70
  go_wp2_with fail
  refine (R _).mono ?_; rintro e w1 ⟨v, rfl, r1, b1⟩
  obtain ⟨A1, c1, rfl⟩ := Kd.R_slice r1
  clear r1
  have hZ : w1.heap[w.heap.size]? = some (.cells none_found 122 (0, 0)) := (b1.block _ (by simp)).trans (heap_alloc_new _ _)
  have z0 : w1.cell? ⟨w.heap.size, 0, none⟩ = some (.int .i64 0) := by simp [World.cell?, hZ, none_found]
  have z1 : w1.cell? ⟨w.heap.size, 1, none⟩ = some (.int .i64 0) := by simp [World.cell?, hZ, none_found]
  have z2 : w1.cell? ⟨w.heap.size, 2, none⟩ = some (.string ⟨#[]⟩) := by simp [World.cell?, hZ, none_found]
  have z3 : w1.cell? ⟨w.heap.size, 3, none⟩ = some (.slice none 0 0) := by simp [World.cell?, hZ, none_found]
  have z4 : w1.cell? ⟨w.heap.size, 4, none⟩ = some (.int .i64 0) := by simp [World.cell?, hZ, none_found]
  have f0 : w1.frozen? ⟨w.heap.size, 0, none⟩ = false := by simp [World.frozen?, hZ]
  have f1 : w1.frozen? ⟨w.heap.size, 1, none⟩ = false := by simp [World.frozen?, hZ]
  have f2 : w1.frozen? ⟨w.heap.size, 2, none⟩ = false := by simp [World.frozen?, hZ]
  have f3 : w1.frozen? ⟨w.heap.size, 3, none⟩ = false := by simp [World.frozen?, hZ]
  have f4 : w1.frozen? ⟨w.heap.size, 4, none⟩ = false := by simp [World.frozen?, hZ]
  have B1 : Below w.heap.size w w1 := ((Below.refl _ _).alloc (Nat.le_refl _) _).trans (b1.mono (by simp))
  go_wp2_with fail
  refine bodyPost_ret (resF Try.results70 _ w.heap.size none_found rfl (.bool false) _ rfl rfl ?_) rfl ⟨rfl, ?_⟩
  · exact put_at (put_at (put_at (put_at (put_at hZ))))
  · exact ((((B1.setCell (Nat.le_refl _) _).setCell (Nat.le_refl _) _).setCell (Nat.le_refl _) _).setCell (Nat.le_refl _) _).setCell (Nat.le_refl _) _
end Go.Proofs.Ytejfdiiennnjjaa.J
namespace Go.Proofs.Ytejfdiiennnjjaa.J
open Go.RowKit Go.Proofs.Ytejfdiiennnjjaa.H Go.Proofs.Ytejfdiiennnjjaa.Facts Go.Proofs.YtejfdiiennnjjaaW.PrintWords Go.Proofs.YtejfdiiennnjjaaW.PrintLast Go.Proofs.YtejfdiiennnjjaaW.PrintMore Go.Proofs.Ytejfdiiennnjjaa
set_option linter.unusedVariables false

theorem i64w' (n : Int) (h0 : 0 ≤ n) (h1 : n < 9223372036854775808) : IntKind.i64.wrap n = n := by
  unfold IntKind.wrap
  simp [IntKind.bits, IntKind.signed]
  omega
theorem or_at (a b : Int) (i : Nat) (h0 : 0 ≤ a) (ha : a < 2 ^ i) (ha' : a < 9223372036854775808) (hb0 : 0 ≤ b) (hb : b % 2 ^ i = 0) (hb1 : b < 9223372036854775808) : Go.bits .or .i64 a b = a + b :=
  bits_join_low .i64 63 (by decide) (fun n h0 h1 => i64w' n h0 (by simpa using h1)) i a b h0 ha (by simpa using ha') hb0 hb (by simpa using hb1)
theorem uns_step (k : Nat) (s : ByteArray) (acc : Nat) (i : Nat) (hi : i < 7) (hs : 7 ≤ s.size) (ha : acc < 2 ^ (8 * i)) :
    journal_unseven.l0 (k + 1) s (acc : Int) (i : Int) = journal_unseven.l0 k s ((acc + ((L s).getD i 0).toNat * 2 ^ (8 * i) : Nat) : Int) ((i + 1 : Nat) : Int) := by
  have hb := ((L s).getD i 0).toNat_lt
  conv => lhs; unfold journal_unseven.l0
  rw [if_pos (by omega), if_pos (by omega), if_pos (by omega), shift_of i hi, if_pos (by omega), bt_getD s i (by omega)]
  generalize ((L s).getD i 0).toNat = b at *
  have hb' : b < 256 := hb
  have e1 : wrap64 (b : Int) = (b : Int) := w64 (by omega) (by omega)
  have e2 : wrap64 ((i : Int) + 1) = ((i + 1 : Nat) : Int) := by rw [w64 (by omega) (by omega)]; push_cast; rfl
  have e3 : shl .i64 (b : Int) ((8 * i : Nat) : Int) = (b : Int) * 2 ^ (8 * i) := by
    unfold shl
    rw [Int.toNat_natCast, Nat.min_eq_left (by show 8 * i ≤ 64; omega)]
    obtain rfl | rfl | rfl | rfl | rfl | rfl | rfl : i = 0 ∨ i = 1 ∨ i = 2 ∨ i = 3 ∨ i = 4 ∨ i = 5 ∨ i = 6 := by omega
    all_goals (simp only [Nat.reduceMul, Int.reducePow]; exact i64w' _ (by omega) (by omega))
  have e4 : Go.bits .or .i64 (acc : Int) ((b : Int) * 2 ^ (8 * i)) = (acc : Int) + (b : Int) * 2 ^ (8 * i) := by
    obtain rfl | rfl | rfl | rfl | rfl | rfl | rfl : i = 0 ∨ i = 1 ∨ i = 2 ∨ i = 3 ∨ i = 4 ∨ i = 5 ∨ i = 6 := by omega
    all_goals
      simp only [Nat.reduceMul, Nat.reducePow] at ha
      simp only [Nat.reduceMul]
      refine or_at _ _ _ (by omega) ?_ (by omega) ?_ (Int.mul_emod_left _ _) ?_
      all_goals (simp only [Int.reducePow]; omega)
  rw [e1, e2, e3, e4]
  push_cast
  rfl
theorem uns_end (k : Nat) (s : ByteArray) (acc : Int) : journal_unseven.l0 (k + 1) s acc 7 = some acc := by
  conv => lhs; unfold journal_unseven.l0
  rw [if_neg (by decide)]
theorem uns_ev (s : ByteArray) (n : Nat) (r : List UInt8) (h : L s = sevenL n ++ r) (hn : n < 72057594037927936) : journal_unseven.f 8 s = some (n : Int) := by
  have hs : 7 ≤ s.size := by rw [← L_len, h, List.length_append, sevenL_len]; omega
  have g : ∀ i c, (sevenL n)[i]? = some c → (L s).getD i 0 = c := fun i c hc => by
    have hi : i < (sevenL n).length := (List.getElem?_eq_some_iff.1 hc).1
    rw [h, List.getD_eq_getElem?_getD, List.getElem?_append_left hi, hc]
    rfl
  have b0 : ((L s).getD 0 0).toNat = n % 256 := by rw [g 0 _ rfl, ofNat_toNat8 _ (by omega)]
  have b1 : ((L s).getD 1 0).toNat = n / 256 % 256 := by rw [g 1 _ rfl, ofNat_toNat8 _ (by omega)]
  have b2 : ((L s).getD 2 0).toNat = n / 65536 % 256 := by rw [g 2 _ rfl, ofNat_toNat8 _ (by omega)]
  have b3 : ((L s).getD 3 0).toNat = n / 16777216 % 256 := by rw [g 3 _ rfl, ofNat_toNat8 _ (by omega)]
  have b4 : ((L s).getD 4 0).toNat = n / 4294967296 % 256 := by rw [g 4 _ rfl, ofNat_toNat8 _ (by omega)]
  have b5 : ((L s).getD 5 0).toNat = n / 1099511627776 % 256 := by rw [g 5 _ rfl, ofNat_toNat8 _ (by omega)]
  have b6 : ((L s).getD 6 0).toNat = n / 281474976710656 % 256 := by rw [g 6 _ rfl, ofNat_toNat8 _ (by omega)]
  unfold journal_unseven.f
  show journal_unseven.l0 8 s ((0 : Nat) : Int) ((0 : Nat) : Int) = _
  rw [uns_step 7 s 0 0 (by omega) hs (by simp), b0]
  rw [uns_step 6 s _ 1 (by omega) hs (by simp only [Nat.reduceMul, Nat.reducePow]; omega), b1]
  rw [uns_step 5 s _ 2 (by omega) hs (by simp only [Nat.reduceMul, Nat.reducePow]; omega), b2]
  rw [uns_step 4 s _ 3 (by omega) hs (by simp only [Nat.reduceMul, Nat.reducePow]; omega), b3]
  rw [uns_step 3 s _ 4 (by omega) hs (by simp only [Nat.reduceMul, Nat.reducePow]; omega), b4]
  rw [uns_step 2 s _ 5 (by omega) hs (by simp only [Nat.reduceMul, Nat.reducePow]; omega), b5]
  rw [uns_step 1 s _ 6 (by omega) hs (by simp only [Nat.reduceMul, Nat.reducePow]; omega), b6]
  show journal_unseven.l0 1 s _ 7 = _
  rw [uns_end]
  refine congrArg some ?_
  simp only [Nat.reduceMul, Nat.reducePow]
  omega
end Go.Proofs.Ytejfdiiennnjjaa.J
namespace Go.Proofs.Ytejfdiiennnjjaa.J
open Go.RowKit Go.Proofs Go.Proofs.Ytejfdiiennnjjaa Go.Proofs.YtejfdiiennnjjaaW.PrintWords Go.Proofs.YtejfdiiennnjjaaW.PrintLast Go.Proofs.YtejfdiiennnjjaaW.PrintMore Go.Proofs.Ytejfdiiennnjjaa.D
set_option linter.unusedVariables false

/-- The first pieces of a state, joined. -/
def joinN (ps : List ByteArray) (k : Nat) : ByteArray := (ps.take k).foldl (· ++ ·) ⟨#[]⟩
theorem joinN_succ (ps : List ByteArray) (k : Nat) (h : k < ps.length) : joinN ps (k + 1) = joinN ps k ++ ps[k] := by
  unfold joinN
  rw [List.take_succ_eq_append_getElem h, List.foldl_append]
  rfl
theorem joinN_size (ps : List ByteArray) (h : ∀ p ∈ ps, p.size ≤ 4096) (k : Nat) (hk : k ≤ ps.length) : (joinN ps k).size ≤ 4096 * k := by
  induction k with
  | zero => exact Nat.le_refl _
  | succ k ih =>
    rw [joinN_succ ps k (by omega), ByteArray.size_append]
    have := ih (by omega)
    have := h _ (List.getElem_mem (show k < ps.length by omega))
    omega
theorem wp_i (n : Nat) (h : n ≤ 1000000) : IntKind.i64.wrap (1 + (n : Int)) = 1 + (n : Int) := i64w _ (by omega) (by omega)
theorem wp_w (n : Nat) (h : n ≤ 1000000) : wrap64 (1 + (n : Int)) = 1 + (n : Int) := Facts.w64 (by omega) (by omega)
theorem wp_b (n : Nat) (h : n ≤ 1000000) : (n : Int) ≤ 1000000 := by omega
theorem read_any (s : ByteArray) (hs : s.size ≤ 1099511627776) (w : World) :
    Calls Try.prog 28 #[.string s] w fun e w' => ∃ v0_ : Value, e = .returned (.tuple #[v0_, .int .i64 ((Facts.readL (Facts.L s)).2.1 : Int), .int .i64 (Facts.readL (Facts.L s)).2.2]) ∧ Kd.R Kd.string 9 w' w.heap.size (fun _ => True) v0_ (Facts.readL (Facts.L s)).1 ∧ Below w.heap.size w w' := by
  obtain ⟨k, hk⟩ := (Facts.Read_ev s hs).rounds
  exact F.frame_Read.calls k s _ _ _ w hk
theorem uns_any (s : ByteArray) (n : Nat) (r : List UInt8) (h : Facts.L s = sevenL n ++ r) (hn : n < 72057594037927936) (w : World) : Calls Try.prog 75 #[.string s] w fun e w' => e = .returned (.int .i64 (n : Int)) ∧ ∃ q, w' = w.drewN q :=
  (H.journal_unseven.calls 8 s n w (uns_ev s n r h hn)).mono fun e w' h => ⟨h.1, h.2.out⟩
set_option maxRecDepth 100000 in
set_option maxHeartbeats 8000000 in
theorem look_ok (s : ByteArray) (hs : s.size ≤ 1048576) (hd : ByteArray) (g q n : Nat) (ps l : List ByteArray) (en : Nat) (er : Int) (w : World) (hr : Facts.readL (Facts.L s) = (hd :: (ps ++ l), en, er)) (hh : Facts.L hd = sevenL g ++ (sevenL q ++ sevenL ps.length))
    (hg0 : 1 ≤ g) (hg : g ≤ 1000000000) (hq : q ≤ 1000000000) (hl : ps.length + l.length ≤ 1000000) (hps : ∀ p ∈ ps, p.size ≤ 4096) :
    Calls Try.prog 70 #[.string s] w fun e w' => ∃ A c, e = .returned (.tuple #[.agg #[.int .i64 (g : Int), .int .i64 (q : Int), .string (joinN ps ps.length), .slice A l.length c, .int .i64 (en : Int)], .bool true]) ∧ l.length ≤ c ∧ Kd.C Kd.string w' A l.length l ∧ Below w.heap.size w w' := by
  have R := read_any s (by omega)
  rw [hr] at R
  dsimp only at R
  have z : hd.size = 21 := by rw [← Facts.L_len, hh]; rfl
  have h1 : Facts.L (hd.extract 7 hd.size) = sevenL q ++ sevenL ps.length := by rw [Facts.L_extract, hh, List.take_of_length_le (by rw [z]; simp [sevenL_len]), List.drop_left' (sevenL_len g)]
  have h2 : Facts.L (hd.extract 14 hd.size) = sevenL ps.length ++ [] := by
    rw [Facts.L_extract, hh, List.take_of_length_le (by rw [z]; simp [sevenL_len]), ← List.append_assoc, List.drop_left' (by simp [sevenL_len]), List.append_nil]
  have U0 := uns_any hd g _ hh (by omega)
  have U1 := uns_any (hd.extract 7 hd.size) q _ h1 (by omega)
  have U2 := uns_any (hd.extract 14 hd.size) ps.length _ h2 (by omega)
  rw [z] at U1 U2
  clear h1 h2 hh hr
  go_enter Try.func70, Try.ntmps70
  go_wp2_with fail
  refine (R _).mono ?_; rintro e w1 ⟨v, rfl, r1, b1⟩
  obtain ⟨gb, cp, rfl, hgb, hgl, _⟩ := Kd.R_form r1 (by simp)
  have C1 := (Kd.R_reads' r1).2.2
  have hcp := (Kd.R_reads' r1).2.1
  have x0 := (Kd.R_cell ByteArray.empty r1 0 (by omega) (by simp; omega)).1
  replace x0 : w1.cell? ⟨gb, 0, none⟩ = some (.string hd) := x0
  have hlen : (hd :: (ps ++ l)).length = ps.length + l.length + 1 := by simp
  rw [hlen] at hcp
  rw [hlen]
  clear hlen
  clear r1 R
  go_wp2_with fail
  have hda : ∀ (k : Nat) (o : Obj), (w1.drewN k).alloc o = (w1.alloc o).drewN k := fun _ _ => rfl
  have hnn := World.new_ne w1 ⟨gb, 0, none⟩ x0
  go_region_held3 (fun w' => w'.cell? ⟨gb, 0, none⟩ = some (.string hd)) (go_keep) (first
    | (go_at_call_of 75 (Value.string hd); refine (U0 _).mono ?_; rintro e w2 ⟨rfl, q2, rfl⟩)
    | (go_at_call 75; refine (U1 _).mono ?_; rintro e w3 ⟨rfl, q3, rfl⟩))
  all_goals
    generalize hX : World.setCell (World.setCell (World.setCell (World.setCell (World.setCell ((w1.alloc (Obj.cells #[.int .i64 0, .int .i64 0, .string ⟨#[]⟩, .slice none 0 0, .int .i64 0] 122)).drewN (1 + q2 + q3)) ⟨w1.heap.size, 0, none⟩ (.int .i64 (g : Int))) ⟨w1.heap.size, 1, none⟩ (.int .i64 (q : Int))) ⟨w1.heap.size, 2, none⟩ (.string ⟨#[]⟩)) ⟨w1.heap.size, 3, none⟩ (.slice none 0 0)) ⟨w1.heap.size, 4, none⟩ (.int .i64 (en : Int)) = X
    have XF : X.heap[w1.heap.size]? = some (.cells #[.int .i64 (g : Int), .int .i64 (q : Int), .string ⟨#[]⟩, .slice none 0 0, .int .i64 (en : Int)] 122 (0, 0)) := by
      rw [← hX]
      exact put_at (put_at (put_at (put_at (put_at (show ((w1.alloc (Obj.cells #[.int .i64 0, .int .i64 0, .string ⟨#[]⟩, .slice none 0 0, .int .i64 0] 122)).drewN (1 + q2 + q3)).heap[w1.heap.size]? = _ from heap_alloc_new _ _)))))
    have XB : Below w1.heap.size w1 X := by
      rw [← hX]
      have XB0 : Below w1.heap.size w1 ((w1.alloc (Obj.cells #[.int .i64 0, .int .i64 0, .string ⟨#[]⟩, .slice none 0 0, .int .i64 0] 122)).drewN (1 + q2 + q3)) := ((Below.refl w1.heap.size w1).alloc (Nat.le_refl _) _).trans ⟨rfl, rfl, rfl, Nat.le_refl _, fun _ _ => rfl⟩
      exact ((((XB0.setCell (Nat.le_refl _) _).setCell (Nat.le_refl _) _).setCell (Nat.le_refl _) _).setCell (Nat.le_refl _) _).setCell (Nat.le_refl _) _
    have X0 : X.cell? ⟨gb, 0, none⟩ = some (.string hd) := by unfold World.cell? at x0 ⊢; rw [XB.block gb hgl]; exact x0
    clear hX x0
    have z0 : X.cell? ⟨w1.heap.size, 0, none⟩ = some (.int .i64 (g : Int)) := by simp [World.cell?, XF]
    go_wp2_with fail
    refine (U2 _).mono ?_; rintro e w4 ⟨rfl, q4, rfl⟩
    have YF : (X.drewN q4).heap[w1.heap.size]? = some (.cells #[.int .i64 (g : Int), .int .i64 (q : Int), .string ⟨#[]⟩, .slice none 0 0, .int .i64 (en : Int)] 122 (0, 0)) := XF
    have YB : Below w1.heap.size w1 (X.drewN q4) := XB.trans ⟨rfl, rfl, rfl, Nat.le_refl _, fun _ _ => rfl⟩
    clear U0 U1 U2 hda hnn XF XB X0 z0
    generalize X.drewN q4 = Y at *
    have z0 : Y.cell? ⟨w1.heap.size, 0, none⟩ = some (.int .i64 (g : Int)) := by simp [World.cell?, YF]
    have hgg : decide ((g : Int) < 1) = false := decide_eq_false (by omega)
    have hnq : decide ((ps.length : Int) + (l.length : Int) + 1 ≤ (ps.length : Int)) = false := decide_eq_false (by omega)
    clear hg hg0
    obtain ⟨i9, hi9, hz9⟩ := Option.map_eq_some_iff.1 info9
    simp only [Prod.mk.injEq] at hz9
    have hsl := cut_mid (P := Try.prog) 32 9 .i64 .i64 Try.underlying32 hi9 1 hz9.2.1 (some ⟨gb, 0, none⟩) (ps.length + l.length + 1) cp 1 (1 + (ps.length : Int)) (by omega) (by omega) (by omega) hcp
    have M1 := Kd.C_mid (lo := 1) (hi := 1 + ps.length) (c := cp) C1 (by omega) (by simp; omega) (by simp; omega)
    rw [show ((hd :: (ps ++ l)).take (1 + ps.length)).drop 1 = ps by rw [Nat.add_comm]; simp] at M1
    rw [show (1 + (ps.length : Int)).toNat - (1 : Int).toNat = ps.length by omega, show (1 : Int).toNat = 1 from rfl, show 1 * 1 = 1 from rfl] at hsl
    rw [show 1 * Kd.string.sz = 1 from rfl] at M1
    have hsl2 := cut_from (P := Try.prog) 32 9 .i64 Try.underlying32 hi9 1 hz9.2.1 (some ⟨gb, 0, none⟩) (ps.length + l.length + 1) cp (1 + (ps.length : Int)) (by omega) (by omega)
    have M2 := Kd.C_drop (m := 1 + ps.length) (c := cp) C1 (by simp; omega) (by simp; omega)
    rw [show (hd :: (ps ++ l)).drop (1 + ps.length) = l by rw [Nat.add_comm]; simp] at M2
    rw [show (1 + (ps.length : Int)).toNat = 1 + ps.length by omega, show (1 + ps.length) * 1 = 1 + ps.length by omega, show ps.length + l.length + 1 - (1 + ps.length) = l.length by omega] at hsl2
    rw [show (1 + ps.length) * Kd.string.sz = 1 + ps.length from Nat.mul_one _] at M2
    have hAB : ∀ ad : Addr, (if cp = 1 + ps.length then some (⟨gb, 0, none⟩ : Addr) else (some (⟨gb, 0, none⟩ : Addr)).map (·.add (1 + ps.length))) = some ad → ad.block = gb := by
      intro ad h
      split at h
      · cases h; rfl
      · simp only [Option.map_some, Option.some.injEq] at h
        subst h
        unfold Addr.add
        split <;> rfl
    have hgn : gb ≠ w.heap.size := by
      have : w.heap.size + 1 ≤ gb := by simpa using hgb
      omega
    have hc2 : l.length ≤ cp - (1 + ps.length) := by omega
    generalize (if cp = 1 + ps.length then some (⟨gb, 0, none⟩ : Addr) else (some (⟨gb, 0, none⟩ : Addr)).map (·.add (1 + ps.length))) = AB at hsl2 M2 hAB
    have HM2 := Lib.hid M2
    have HAB := Lib.hid hAB
    clear M2 hAB
    have hZ : w1.heap[w.heap.size]? = some (.cells none_found 122 (0, 0)) := (b1.block _ (by simp)).trans (heap_alloc_new _ _)
    have HZ := Lib.hid hZ
    have B1 : Below w.heap.size w w1 := ((Below.refl _ _).alloc (Nat.le_refl _) _).trans (b1.mono (by simp))
    have hwlt := lt_of_block hZ
    clear hZ b1 hgb
    generalize (if cp = 1 then some (⟨gb, 0, none⟩ : Addr) else (some (⟨gb, 0, none⟩ : Addr)).map (·.add 1)) = AA at hsl M1
    have HP := Lib.hid hps
    have HM := Lib.hid M1
    have HY := Lib.hid YF
    clear hz9 hi9 C1 hps hcp M1 YF
    go_upto_region 8 with fail
    have hw2 := wp_i ps.length (Nat.le_trans (Nat.le_add_right _ _) hl)
    have hw3 := wp_w ps.length (Nat.le_trans (Nat.le_add_right _ _) hl)
    have hb1 := wp_b ps.length (Nat.le_trans (Nat.le_add_right _ _) hl)
    clear hgg hnq hq
    go_wp2_with fail
    go_loopw [59] (fun i wr => ∃ k : Nat, k ≤ ps.length ∧ i = .int .i64 (k : Int) ∧ wr.heap[w1.heap.size]? = some (.cells #[.int .i64 (g : Int), .int .i64 (q : Int), .string (joinN ps k), .slice none 0 0, .int .i64 (en : Int)] 122 (0, 0)) ∧ Below w1.heap.size w1 wr) (fun i _ => ps.length - (intOf i).toNat)
    case atStart => exact ⟨0, by omega, rfl, HY.out, YB⟩
    case round =>
      obtain ⟨k, hk, rfl, F, B⟩ := hrel
      by_cases hlt : k < ps.length
      · obtain ⟨ad, hA, hc⟩ := Kd.at_string (Kd.C_below HM.out B) (k : Int) (by omega) (by omega)
        have e : rdOf ByteArray.empty ps (k : Int) = ps[k] := by
          unfold rdOf
          rw [Int.toNat_natCast, List.getD_eq_getElem?_getD, List.getElem?_eq_getElem hlt, Option.getD_some]
        rw [e, Int.toNat_natCast] at hc
        have c2 : wr.cell? ⟨w1.heap.size, 2, none⟩ = some (.string (joinN ps k)) := by simp [World.cell?, F]
        have f2 : wr.frozen? ⟨w1.heap.size, 2, none⟩ = false := by simp [World.frozen?, F]
        have s1 := joinN_size ps HP.out k hk
        have s2 := HP.out _ (List.getElem_mem hlt)
        have hz : ¬ 9223372036854775807 < (joinN ps k).size + ps[k].size := by omega
        have F2 := put_at (i := 2) (v := .string (joinN ps k ++ ps[k])) F
        rw [← joinN_succ ps k hlt] at F2
        have B2 := B.setCell (Nat.le_refl _) (p := ⟨w1.heap.size, 2, none⟩) (.string (joinN ps (k + 1)))
        rw [joinN_succ ps k hlt] at F2 B2
        subst hA
        clear F B e
        go_wp2_with fail
        go_roundw
        case rel => exact ⟨k + 1, by omega, by go_num, by rw [joinN_succ ps k hlt]; exact F2, B2⟩
        case measure => simp [intOf]; omega
      · obtain rfl : k = ps.length := by omega
        have hZ2 : wr.heap[w.heap.size]? = some (.cells none_found 122 (0, 0)) := (B.block _ hwlt).trans HZ.out
        have c0 : wr.cell? ⟨w1.heap.size, 0, none⟩ = some (.int .i64 (g : Int)) := by simp [World.cell?, F]
        have c1 : wr.cell? ⟨w1.heap.size, 1, none⟩ = some (.int .i64 (q : Int)) := by simp [World.cell?, F]
        have c2 : wr.cell? ⟨w1.heap.size, 2, none⟩ = some (.string (joinN ps ps.length)) := by simp [World.cell?, F]
        have c3 : wr.cell? ⟨w1.heap.size, 3, none⟩ = some (.slice none 0 0) := by simp [World.cell?, F]
        have c4 : wr.cell? ⟨w1.heap.size, 4, none⟩ = some (.int .i64 (en : Int)) := by simp [World.cell?, F]
        have f3 : wr.frozen? ⟨w1.heap.size, 3, none⟩ = false := by simp [World.frozen?, F]
        have z0_ : wr.cell? ⟨w.heap.size, 0, none⟩ = some (.int .i64 0) := by simp [World.cell?, hZ2, none_found]
        have z1_ : wr.cell? ⟨w.heap.size, 1, none⟩ = some (.int .i64 0) := by simp [World.cell?, hZ2, none_found]
        have z2_ : wr.cell? ⟨w.heap.size, 2, none⟩ = some (.string ⟨#[]⟩) := by simp [World.cell?, hZ2, none_found]
        have z3_ : wr.cell? ⟨w.heap.size, 3, none⟩ = some (.slice none 0 0) := by simp [World.cell?, hZ2, none_found]
        have z4_ : wr.cell? ⟨w.heap.size, 4, none⟩ = some (.int .i64 0) := by simp [World.cell?, hZ2, none_found]
        have g0 : wr.frozen? ⟨w.heap.size, 0, none⟩ = false := by simp [World.frozen?, hZ2]
        have g1 : wr.frozen? ⟨w.heap.size, 1, none⟩ = false := by simp [World.frozen?, hZ2]
        have g2 : wr.frozen? ⟨w.heap.size, 2, none⟩ = false := by simp [World.frozen?, hZ2]
        have g3 : wr.frozen? ⟨w.heap.size, 3, none⟩ = false := by simp [World.frozen?, hZ2]
        have g4 : wr.frozen? ⟨w.heap.size, 4, none⟩ = false := by simp [World.frozen?, hZ2]
        have hne1 : w.heap.size ≠ w1.heap.size := by omega
        have hne2 : w1.heap.size ≠ w.heap.size := by omega
        have F3 := put_at (i := 3) (v := .slice AB l.length (cp - (1 + ps.length))) F
        have Z3 : (wr.setCell ⟨w1.heap.size, 3, none⟩ (.slice AB l.length (cp - (1 + ps.length)))).heap[w.heap.size]? = some (.cells none_found 122 (0, 0)) := (Below.heap_setCell _ _ _ _ hne1).trans hZ2
        have HZ3 := Lib.hid Z3
        have BB := (B1.trans (B.mono (Nat.le_of_lt hwlt))).setCell (Nat.le_of_lt hwlt) (p := ⟨w1.heap.size, 3, none⟩) (.slice AB l.length (cp - (1 + ps.length)))
        have KB : KeepBut w1 (wr.setCell ⟨w1.heap.size, 3, none⟩ (.slice AB l.length (cp - (1 + ps.length)))) w.heap.size none := ⟨by have := B.size; simpa using this, fun i hi _ _ => (Below.heap_setCell _ _ _ _ (show i ≠ w1.heap.size by omega)).trans (B.block i hi)⟩
        have HKB := Lib.hid KB
        clear F F3 Z3 hZ2 B KB
        go_wp2_with fail
        refine bodyPost_ret (resF Try.results70 _ w.heap.size #[.int .i64 (g : Int), .int .i64 (q : Int), .string (joinN ps ps.length), .slice AB l.length (cp - (1 + ps.length)), .int .i64 (en : Int)] rfl (.bool true) _ rfl rfl ?_) rfl ⟨AB, cp - (1 + ps.length), rfl, hc2, ?_, ?_⟩
        · exact put_at (put_at (put_at (put_at (put_at HZ3.out))))
        · exact Kd.C_keep ByteArray.empty HM2.out (((((HKB.out.set_ 0 _).set_ 1 _).set_ 2 _).set_ 3 _).set_ 4 _) (fun ad e _ => by rw [HAB.out ad e]; exact hgn)
        · exact ((((BB.setCell (Nat.le_refl _) _).setCell (Nat.le_refl _) _).setCell (Nat.le_refl _) _).setCell (Nat.le_refl _) _).setCell (Nat.le_refl _) _
end Go.Proofs.Ytejfdiiennnjjaa.J
namespace Go.Proofs.Ytejfdiiennnjjaa.J
open Go.RowKit Go.Proofs.Ytejfdiiennnjjaa.F Go.Proofs.Ytejfdiiennnjjaa.Facts Go.Proofs.YtejfdiiennnjjaaW.PrintWords Go.Proofs.YtejfdiiennnjjaaW.PrintLast Go.Proofs.YtejfdiiennnjjaaW.PrintMore Go.Proofs.Ytejfdiiennnjjaa
set_option linter.unusedVariables false

theorem hdr_put (n : Nat) (h : n < 4294967296) (x : List UInt8) : hdr (fourL n ++ (fourL (4294967295 - n) ++ x)) = true := by
  show hdr (UInt8.ofNat (n % 256) :: UInt8.ofNat (n / 256 % 256) :: UInt8.ofNat (n / 65536 % 256) :: UInt8.ofNat (n / 16777216 % 256) :: UInt8.ofNat ((4294967295 - n) % 256) :: UInt8.ofNat ((4294967295 - n) / 256 % 256) :: UInt8.ofNat ((4294967295 - n) / 65536 % 256) :: UInt8.ofNat ((4294967295 - n) / 16777216 % 256) :: x) = true
  rw [hdr_eight, ofNat_toNat8 _ (by omega), ofNat_toNat8 _ (by omega), ofNat_toNat8 _ (by omega), ofNat_toNat8 _ (by omega), ofNat_toNat8 _ (by omega), ofNat_toNat8 _ (by omega), ofNat_toNat8 _ (by omega), ofNat_toNat8 _ (by omega)]
  omega

theorem nextL_put (r rest : List UInt8) (h : r.length ≤ 4096) : nextL (putL r ++ rest) = (S r, ((r.length + 12 : Nat) : Int), 0) := by
  have hn : numL (putL r ++ rest) = r.length := by
    unfold putL; rw [List.append_assoc]; exact numL_fourL _ (by omega) _
  have hh : hdr (putL r ++ rest) = true := by
    unfold putL; rw [List.append_assoc, List.append_assoc]; exact hdr_put _ (by omega) _
  have hl : (putL r ++ rest).length = r.length + 12 + rest.length := by rw [List.length_append, putL_len]
  have h8 : (putL r ++ rest).drop 8 = r ++ (fourL (sumN r) ++ rest) := by
    unfold putL
    rw [List.append_assoc, List.append_assoc, List.append_assoc, ← List.append_assoc (fourL r.length)]
    exact List.drop_left' (by simp [fourL_len])
  have h9 : (putL r ++ rest).drop (8 + r.length) = fourL (sumN r) ++ rest := by
    rw [← List.drop_drop, h8, List.drop_left]
  unfold nextL
  rw [if_pos hh, if_neg (by omega), hn, if_neg (by omega), if_neg (by omega), h8, h9, List.take_left, numL_fourL _ (sumN_lt _), if_pos rfl]

theorem readL_flat (l : List ByteArray) (h : okAll l = true) : readL (flat l) = (l, (flat l).length, 0) := by
  induction l with
  | nil => rw [readL_eq, if_pos (by rfl)]; rfl
  | cons s l ih =>
    have hs : s.size ≤ 4096 ∧ okAll l = true := by
      unfold okAll at h ⊢; rw [List.all_cons, Bool.and_eq_true, decide_eq_true_eq] at h; exact h
    have hf : flat (s :: l) = putL (L s) ++ flat l := by simp [flat]
    have hlen := putL_len (L s)
    have hne : ¬ flat (s :: l) = [] := fun e => by
      rw [hf] at e
      have := List.append_eq_nil_iff.1 e
      rw [this.1] at hlen; simp at hlen
    have hN := nextL_put (L s) (flat l) (by rw [L_len]; exact hs.1)
    rw [← hf] at hN
    have hd : (flat (s :: l)).drop ((L s).length + 12) = flat l := by rw [hf, ← hlen, List.drop_left]
    rw [readL_eq, if_neg hne, hN, if_pos rfl, Int.toNat_natCast, hd, ih hs.2, S_L, hf, List.length_append, hlen]

/-- What a journal's file has: the first record, the state's pieces, the commands. -/
def cont (g q : Nat) (st : ByteArray) (l : List ByteArray) : ByteArray := S (flat (head g q st :: (chunks st ++ l)))
theorem flat_append (a b : List ByteArray) : flat (a ++ b) = flat a ++ flat b := by unfold flat; rw [List.flatMap_append]
theorem cont_nil (g q : Nat) (st : ByteArray) : cont g q st [] = lay g q st := by unfold cont lay; rw [List.append_nil]
theorem cont_add (g q : Nat) (st : ByteArray) (l : List ByteArray) (c : ByteArray) : cont g q st l ++ S (putL (L c)) = cont g q st (l ++ [c]) := by
  unfold cont
  rw [S_append, show head g q st :: (chunks st ++ (l ++ [c])) = (head g q st :: (chunks st ++ l)) ++ [c] by simp, flat_append]
  congr 2
  simp [flat]
theorem ok_append (a b : List ByteArray) : okAll (a ++ b) = (okAll a && okAll b) := by unfold okAll; rw [List.all_append]
theorem cont_read (g q : Nat) (st : ByteArray) (l : List ByteArray) (hl : okAll l = true) : readL (L (cont g q st l)) = (head g q st :: (chunks st ++ l), (cont g q st l).size, 0) := by
  have hk : okAll (head g q st :: (chunks st ++ l)) = true := by
    have h1 : okAll (chunks st) = true := (chunksF_all (st.size + 1) st (by omega)).1
    have h2 := ok_append (chunks st) l
    rw [h1, hl] at h2
    unfold okAll at h2 ⊢
    rw [List.all_cons, head_size, h2]
    rfl
  unfold cont
  rw [L_S, readL_flat _ hk, S_size]
theorem head_L (g q : Nat) (st : ByteArray) : L (head g q st) = sevenL g ++ (sevenL q ++ sevenL (chunks st).length) := by
  unfold head
  rw [L_S, List.append_assoc]
theorem fold_from (l : List ByteArray) : ∀ a : ByteArray, l.foldl (· ++ ·) a = a ++ l.foldl (· ++ ·) ⟨#[]⟩ := by
  induction l with
  | nil => intro a; exact ByteArray.append_empty.symm
  | cons x l ih =>
    intro a
    rw [List.foldl_cons, List.foldl_cons, ih (a ++ x), ih ((⟨#[]⟩ : ByteArray) ++ x), ByteArray.append_assoc, show (⟨#[]⟩ : ByteArray) ++ x = x from ByteArray.empty_append]
theorem chunks_join (k : Nat) : ∀ s : ByteArray, s.size < k → (chunksF k s).foldl (· ++ ·) ⟨#[]⟩ = s := by
  induction k with
  | zero => intro s h; omega
  | succ k ih =>
    intro s h
    unfold chunksF
    by_cases h0 : s.size = 0
    · rw [if_pos h0]
      apply L_ext
      have : (L s).length = 0 := by rw [L_len]; exact h0
      rw [List.length_eq_zero_iff.1 this]
      rfl
    · rw [if_neg h0, List.foldl_cons, fold_from, ih _ (by rw [ByteArray.size_extract]; omega)]
      apply L_ext
      rw [L_append, L_append, L_extract, L_extract]
      show ([] : List UInt8) ++ _ ++ _ = _
      rw [List.nil_append, List.drop_zero, List.take_of_length_le (i := s.size) (l := L s) (by rw [L_len]; omega), List.take_append_drop]
theorem join_all (st : ByteArray) : joinN (chunks st) (chunks st).length = st := by
  unfold joinN chunks
  rw [List.take_length]
  exact chunks_join _ _ (by omega)
end Go.Proofs.Ytejfdiiennnjjaa.J
namespace Go.Proofs.Ytejfdiiennnjjaa.J
open Go.RowKit Go.Proofs Go.Proofs.Ytejfdiiennnjjaa Go.Proofs.YtejfdiiennnjjaaW.PrintWords
set_option linter.unusedVariables false

theorem look_cont (g q : Nat) (st : ByteArray) (l : List ByteArray) (w : World) (hg0 : 1 ≤ g) (hg : g ≤ 1000000000) (hq : q ≤ 1000000000) (hl : Facts.okAll l = true) (hs : (cont g q st l).size ≤ 1048576) (hn : (chunks st).length + l.length ≤ 1000000) :
    Calls Try.prog 70 #[.string (cont g q st l)] w fun e w' => ∃ A c, e = .returned (.tuple #[.agg #[.int .i64 (g : Int), .int .i64 (q : Int), .string st, .slice A l.length c, .int .i64 ((cont g q st l).size : Int)], .bool true]) ∧ l.length ≤ c ∧ Kd.C Kd.string w' A l.length l ∧ Below w.heap.size w w' := by
  have hps : ∀ p ∈ chunks st, p.size ≤ 4096 := fun p hp => of_decide_eq_true (List.all_eq_true.1 (chunksF_all (st.size + 1) st (by omega)).1 p hp)
  have R := look_ok (cont g q st l) hs (head g q st) g q 0 (chunks st) l _ _ w (cont_read g q st l hl) (head_L g q st) hg0 hg hq hn hps
  rw [join_all] at R
  exact R
end Go.Proofs.Ytejfdiiennnjjaa.J
