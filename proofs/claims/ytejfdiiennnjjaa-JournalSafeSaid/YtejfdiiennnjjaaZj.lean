/- look at any file that a journal can have left: one without a state that is whole; one with a state, and the commands' row. -/
import Derived.Test.YtejfdiiennnjjaaZh
import Derived.Test.YtejfdiiennnjjaaZg
namespace Go.Proofs.Ytejfdiiennnjjaa.J
open Go.RowKit Go.Proofs Go.Proofs.Ytejfdiiennnjjaa Go.Proofs.YtejfdiiennnjjaaW.PrintWords Go.Proofs.YtejfdiiennnjjaaW.PrintLast Go.Proofs.YtejfdiiennnjjaaW.PrintMore Go.Proofs.Ytejfdiiennnjjaa.D
set_option linter.unusedVariables false

theorem Tl.keepbut {w1 w2 : World} {B g : Nat} {v : Value} {l : List ByteArray} (h : Tl w1 B (fun k => k ≠ g) v l) (K : KeepBut w1 w2 g none) : Tl w2 B (fun k => k ≠ g) v l := h.step K.1 (fun k hk hl => K.2 k hl hk (by simp))
/-- A row from some place on. -/
theorem Tl.drop {w : World} {B : Nat} {ok : Nat → Prop} {A : Option Addr} {n c : Nat} {l : List ByteArray} (h : Tl w B ok (.slice A n c) l) (m : Nat) (hm : m ≤ n) :
    Tl w B ok (.slice (if c = m then A else A.map (·.add m)) (n - m) (c - m)) (l.drop m) := by
  obtain ⟨h1, A', c', e, h2, h3⟩ := h
  injection e with e1 e2 e3
  subst e1
  subst e2
  subst e3
  have hk : ∀ k, (Value.slice (if c = m then A else A.map (·.add m)) (l.length - m) (c - m)).ownBlock = some k → (Value.slice A l.length c).ownBlock = some k := by
    intro k hk
    split at hk
    · cases A with
      | none => exact hk
      | some a => exact hk
    · cases A with
      | none => exact hk
      | some a =>
        have : (a.add m).block = k := by simpa [Value.ownBlock] using hk
        rw [← this]
        simp only [Value.ownBlock]
        unfold Addr.add
        split <;> rfl
  refine ⟨fun k h => h1 k (hk k h), _, c - m, by rw [List.length_drop], by rw [List.length_drop]; omega, ?_⟩
  rcases h3 with ⟨h3, _⟩ | ⟨g, off, cur, rfl, hg, h4, h5⟩
  · exact .inl ⟨by omega, fun _ => by omega⟩
  · by_cases hcm : c = m
    · exact .inl ⟨by omega, fun _ => by omega⟩
    · rw [if_neg hcm]
      refine .inr ⟨g, off + m, cur, by rw [Option.map_some, add_at], hg, by omega, fun k hk => ?_⟩
      rw [List.length_drop] at hk
      have := h5 (m + k) (by omega)
      rw [List.getElem_drop, Nat.add_assoc]
      exact this
set_option maxRecDepth 100000 in
set_option maxHeartbeats 4000000 in
theorem look_bad0 (s : ByteArray) (hs : s.size ≤ 1048576) (en : Nat) (er : Int) (hr : Facts.readL (Facts.L s) = ([], en, er)) (w : World) : Calls Try.prog 70 #[.string s] w fun e w' => e = .returned (.tuple #[.agg none_found, .bool false]) ∧ Below w.heap.size w w' := by
  have R := read_any s (by omega)
  rw [hr] at R
  dsimp only at R
  go_enter Try.func70, Try.ntmps70
  go_wp2_with fail
  refine (R _).mono ?_; rintro e w1 ⟨v, rfl, r1, b1⟩
  obtain ⟨A1, c1, rfl⟩ := Kd.R_slice r1
  clear r1
  have hZ : w1.heap[w.heap.size]? = some (.cells none_found 122 (0, 0)) := (b1.block _ (by simp)).trans (heap_alloc_new _ _)
  have z0 : w1.cell? ⟨w.heap.size, 0, none⟩ = some (.int .i64 0) := by simp [World.cell?, hZ, none_found]
  have z1 : w1.cell? ⟨w.heap.size, 1, none⟩ = some (.int .i64 0) := by simp [World.cell?, hZ, none_found]
  have z2 : w1.cell? ⟨w.heap.size, 2, none⟩ = some (.string ⟨#[]⟩) := by simp [World.cell?, hZ, none_found]
  have z3 : w1.cell? ⟨w.heap.size, 3, none⟩ = some (.slice none 0 0) := by simp [World.cell?, hZ, none_found]
  have z4 : w1.cell? ⟨w.heap.size, 4, none⟩ = some (.int .i64 0) := by simp [World.cell?, hZ, none_found]
  have f0 : w1.frozen? ⟨w.heap.size, 0, none⟩ = false := by simp [World.frozen?, hZ]
  have f1 : w1.frozen? ⟨w.heap.size, 1, none⟩ = false := by simp [World.frozen?, hZ]
  have f2 : w1.frozen? ⟨w.heap.size, 2, none⟩ = false := by simp [World.frozen?, hZ]
  have f3 : w1.frozen? ⟨w.heap.size, 3, none⟩ = false := by simp [World.frozen?, hZ]
  have f4 : w1.frozen? ⟨w.heap.size, 4, none⟩ = false := by simp [World.frozen?, hZ]
  have B1 : Below w.heap.size w w1 := ((Below.refl _ _).alloc (Nat.le_refl _) _).trans (b1.mono (by simp))
  go_wp2_with fail
  refine bodyPost_ret (resF Try.results70 _ w.heap.size none_found rfl (.bool false) _ rfl rfl ?_) rfl ⟨rfl, ?_⟩
  · exact put_at (put_at (put_at (put_at (put_at hZ))))
  · exact ((((B1.setCell (Nat.le_refl _) _).setCell (Nat.le_refl _) _).setCell (Nat.le_refl _) _).setCell (Nat.le_refl _) _).setCell (Nat.le_refl _) _
set_option maxRecDepth 100000 in
set_option maxHeartbeats 8000000 in
theorem look_good (s : ByteArray) (hs : s.size ≤ 1048576) (hd : ByteArray) (g q n : Nat) (ps l : List ByteArray) (en : Nat) (er : Int) (w : World) (hr : Facts.readL (Facts.L s) = (hd :: (ps ++ l), en, er)) (hh : Facts.L hd = sevenL g ++ (sevenL q ++ sevenL ps.length))
    (hg0 : 1 ≤ g) (hg : g ≤ 1000000000) (hq : q ≤ 1000000000) (hl : ps.length + l.length ≤ 1000000) (hps : ∀ p ∈ ps, p.size ≤ 4096) :
    Calls Try.prog 70 #[.string s] w fun e w' => ∃ A c, e = .returned (.tuple #[.agg #[.int .i64 (g : Int), .int .i64 (q : Int), .string (joinN ps ps.length), .slice A l.length c, .int .i64 (en : Int)], .bool true]) ∧ Tl w' w.heap.size (fun k => k ≠ w.heap.size) (.slice A l.length c) l ∧ Below w.heap.size w w' := by
  have R := read_any s (by omega)
  rw [hr] at R
  dsimp only at R
  have z : hd.size = 21 := by rw [← Facts.L_len, hh]; rfl
  have h1 : Facts.L (hd.extract 7 hd.size) = sevenL q ++ sevenL ps.length := by rw [Facts.L_extract, hh, List.take_of_length_le (by rw [z]; simp [sevenL_len]), List.drop_left' (sevenL_len g)]
  have h2 : Facts.L (hd.extract 14 hd.size) = sevenL ps.length ++ [] := by
    rw [Facts.L_extract, hh, List.take_of_length_le (by rw [z]; simp [sevenL_len]), ← List.append_assoc, List.drop_left' (by simp [sevenL_len]), List.append_nil]
  have U0 := uns_any hd g _ hh (by omega)
  have U1 := uns_any (hd.extract 7 hd.size) q _ h1 (by omega)
  have U2 := uns_any (hd.extract 14 hd.size) ps.length _ h2 (by omega)
  rw [z] at U1 U2
  clear h1 h2 hh hr
  go_enter Try.func70, Try.ntmps70
  go_wp2_with fail
  refine (R _).mono ?_; rintro e w1 ⟨v, rfl, r1, b1⟩
  obtain ⟨gb, cp, rfl, hgb, hgl, _⟩ := Kd.R_form r1 (by simp)
  have C1 := (Kd.R_reads' r1).2.2
  have T1 := Tl.of_R r1
  have hcp := (Kd.R_reads' r1).2.1
  have x0 := (Kd.R_cell ByteArray.empty r1 0 (by omega) (by simp; omega)).1
  replace x0 : w1.cell? ⟨gb, 0, none⟩ = some (.string hd) := x0
  have hlen : (hd :: (ps ++ l)).length = ps.length + l.length + 1 := by simp
  rw [hlen] at hcp
  rw [hlen]
  clear hlen
  clear r1 R
  go_wp2_with fail
  have hda : ∀ (k : Nat) (o : Obj), (w1.drewN k).alloc o = (w1.alloc o).drewN k := fun _ _ => rfl
  have hnn := World.new_ne w1 ⟨gb, 0, none⟩ x0
  go_region_held3 (fun w' => w'.cell? ⟨gb, 0, none⟩ = some (.string hd)) (go_keep) (first
    | (go_at_call_of 75 (Value.string hd); refine (U0 _).mono ?_; rintro e w2 ⟨rfl, q2, rfl⟩)
    | (go_at_call 75; refine (U1 _).mono ?_; rintro e w3 ⟨rfl, q3, rfl⟩))
  all_goals
    generalize hX : World.setCell (World.setCell (World.setCell (World.setCell (World.setCell ((w1.alloc (Obj.cells #[.int .i64 0, .int .i64 0, .string ⟨#[]⟩, .slice none 0 0, .int .i64 0] 122)).drewN (1 + q2 + q3)) ⟨w1.heap.size, 0, none⟩ (.int .i64 (g : Int))) ⟨w1.heap.size, 1, none⟩ (.int .i64 (q : Int))) ⟨w1.heap.size, 2, none⟩ (.string ⟨#[]⟩)) ⟨w1.heap.size, 3, none⟩ (.slice none 0 0)) ⟨w1.heap.size, 4, none⟩ (.int .i64 (en : Int)) = X
    have XF : X.heap[w1.heap.size]? = some (.cells #[.int .i64 (g : Int), .int .i64 (q : Int), .string ⟨#[]⟩, .slice none 0 0, .int .i64 (en : Int)] 122 (0, 0)) := by
      rw [← hX]
      exact put_at (put_at (put_at (put_at (put_at (show ((w1.alloc (Obj.cells #[.int .i64 0, .int .i64 0, .string ⟨#[]⟩, .slice none 0 0, .int .i64 0] 122)).drewN (1 + q2 + q3)).heap[w1.heap.size]? = _ from heap_alloc_new _ _)))))
    have XB : Below w1.heap.size w1 X := by
      rw [← hX]
      have XB0 : Below w1.heap.size w1 ((w1.alloc (Obj.cells #[.int .i64 0, .int .i64 0, .string ⟨#[]⟩, .slice none 0 0, .int .i64 0] 122)).drewN (1 + q2 + q3)) := ((Below.refl w1.heap.size w1).alloc (Nat.le_refl _) _).trans ⟨rfl, rfl, rfl, Nat.le_refl _, fun _ _ => rfl⟩
      exact ((((XB0.setCell (Nat.le_refl _) _).setCell (Nat.le_refl _) _).setCell (Nat.le_refl _) _).setCell (Nat.le_refl _) _).setCell (Nat.le_refl _) _
    have X0 : X.cell? ⟨gb, 0, none⟩ = some (.string hd) := by unfold World.cell? at x0 ⊢; rw [XB.block gb hgl]; exact x0
    clear hX x0
    have z0 : X.cell? ⟨w1.heap.size, 0, none⟩ = some (.int .i64 (g : Int)) := by simp [World.cell?, XF]
    go_wp2_with fail
    refine (U2 _).mono ?_; rintro e w4 ⟨rfl, q4, rfl⟩
    have YF : (X.drewN q4).heap[w1.heap.size]? = some (.cells #[.int .i64 (g : Int), .int .i64 (q : Int), .string ⟨#[]⟩, .slice none 0 0, .int .i64 (en : Int)] 122 (0, 0)) := XF
    have YB : Below w1.heap.size w1 (X.drewN q4) := XB.trans ⟨rfl, rfl, rfl, Nat.le_refl _, fun _ _ => rfl⟩
    clear U0 U1 U2 hda hnn XF XB X0 z0
    generalize X.drewN q4 = Y at *
    have z0 : Y.cell? ⟨w1.heap.size, 0, none⟩ = some (.int .i64 (g : Int)) := by simp [World.cell?, YF]
    have hgg : decide ((g : Int) < 1) = false := decide_eq_false (by omega)
    have hnq : decide ((ps.length : Int) + (l.length : Int) + 1 ≤ (ps.length : Int)) = false := decide_eq_false (by omega)
    clear hg hg0
    obtain ⟨i9, hi9, hz9⟩ := Option.map_eq_some_iff.1 info9
    simp only [Prod.mk.injEq] at hz9
    have hsl := cut_mid (P := Try.prog) 32 9 .i64 .i64 Try.underlying32 hi9 1 hz9.2.1 (some ⟨gb, 0, none⟩) (ps.length + l.length + 1) cp 1 (1 + (ps.length : Int)) (by omega) (by omega) (by omega) hcp
    have M1 := Kd.C_mid (lo := 1) (hi := 1 + ps.length) (c := cp) C1 (by omega) (by simp; omega) (by simp; omega)
    rw [show ((hd :: (ps ++ l)).take (1 + ps.length)).drop 1 = ps by rw [Nat.add_comm]; simp] at M1
    rw [show (1 + (ps.length : Int)).toNat - (1 : Int).toNat = ps.length by omega, show (1 : Int).toNat = 1 from rfl, show 1 * 1 = 1 from rfl] at hsl
    rw [show 1 * Kd.string.sz = 1 from rfl] at M1
    have hsl2 := cut_from (P := Try.prog) 32 9 .i64 Try.underlying32 hi9 1 hz9.2.1 (some ⟨gb, 0, none⟩) (ps.length + l.length + 1) cp (1 + (ps.length : Int)) (by omega) (by omega)
    have M2 := T1.drop (1 + ps.length) (by simp; omega)
    rw [show (hd :: (ps ++ l)).drop (1 + ps.length) = l by rw [Nat.add_comm]; simp, show (hd :: (ps ++ l)).length - (1 + ps.length) = l.length by simp; omega] at M2
    clear T1
    rw [show (1 + (ps.length : Int)).toNat = 1 + ps.length by omega, show (1 + ps.length) * 1 = 1 + ps.length by omega, show ps.length + l.length + 1 - (1 + ps.length) = l.length by omega] at hsl2
    have hAB : ∀ ad : Addr, (if cp = 1 + ps.length then some (⟨gb, 0, none⟩ : Addr) else (some (⟨gb, 0, none⟩ : Addr)).map (·.add (1 + ps.length))) = some ad → ad.block = gb := by
      intro ad h
      split at h
      · cases h; rfl
      · simp only [Option.map_some, Option.some.injEq] at h
        subst h
        unfold Addr.add
        split <;> rfl
    have hgn : gb ≠ w.heap.size := by
      have : w.heap.size + 1 ≤ gb := by simpa using hgb
      omega
    have hc2 : l.length ≤ cp - (1 + ps.length) := by omega
    generalize (if cp = 1 + ps.length then some (⟨gb, 0, none⟩ : Addr) else (some (⟨gb, 0, none⟩ : Addr)).map (·.add (1 + ps.length))) = AB at hsl2 M2 hAB
    have HM2 := Lib.hid M2
    have HAB := Lib.hid hAB
    clear M2 hAB
    have hZ : w1.heap[w.heap.size]? = some (.cells none_found 122 (0, 0)) := (b1.block _ (by simp)).trans (heap_alloc_new _ _)
    have HZ := Lib.hid hZ
    have B1 : Below w.heap.size w w1 := ((Below.refl _ _).alloc (Nat.le_refl _) _).trans (b1.mono (by simp))
    have hwlt := lt_of_block hZ
    clear hZ b1 hgb
    generalize (if cp = 1 then some (⟨gb, 0, none⟩ : Addr) else (some (⟨gb, 0, none⟩ : Addr)).map (·.add 1)) = AA at hsl M1
    have HP := Lib.hid hps
    have HM := Lib.hid M1
    have HY := Lib.hid YF
    clear hz9 hi9 C1 hps hcp M1 YF
    go_upto_region 8 with fail
    have hw2 := wp_i ps.length (Nat.le_trans (Nat.le_add_right _ _) hl)
    have hw3 := wp_w ps.length (Nat.le_trans (Nat.le_add_right _ _) hl)
    have hb1 := wp_b ps.length (Nat.le_trans (Nat.le_add_right _ _) hl)
    clear hgg hnq hq
    go_wp2_with fail
    go_loopw [59] (fun i wr => ∃ k : Nat, k ≤ ps.length ∧ i = .int .i64 (k : Int) ∧ wr.heap[w1.heap.size]? = some (.cells #[.int .i64 (g : Int), .int .i64 (q : Int), .string (joinN ps k), .slice none 0 0, .int .i64 (en : Int)] 122 (0, 0)) ∧ Below w1.heap.size w1 wr) (fun i _ => ps.length - (intOf i).toNat)
    case atStart => exact ⟨0, by omega, rfl, HY.out, YB⟩
    case round =>
      obtain ⟨k, hk, rfl, F, B⟩ := hrel
      by_cases hlt : k < ps.length
      · obtain ⟨ad, hA, hc⟩ := Kd.at_string (Kd.C_below HM.out B) (k : Int) (by omega) (by omega)
        have e : rdOf ByteArray.empty ps (k : Int) = ps[k] := by
          unfold rdOf
          rw [Int.toNat_natCast, List.getD_eq_getElem?_getD, List.getElem?_eq_getElem hlt, Option.getD_some]
        rw [e, Int.toNat_natCast] at hc
        have c2 : wr.cell? ⟨w1.heap.size, 2, none⟩ = some (.string (joinN ps k)) := by simp [World.cell?, F]
        have f2 : wr.frozen? ⟨w1.heap.size, 2, none⟩ = false := by simp [World.frozen?, F]
        have s1 := joinN_size ps HP.out k hk
        have s2 := HP.out _ (List.getElem_mem hlt)
        have hz : ¬ 9223372036854775807 < (joinN ps k).size + ps[k].size := by omega
        have F2 := put_at (i := 2) (v := .string (joinN ps k ++ ps[k])) F
        rw [← joinN_succ ps k hlt] at F2
        have B2 := B.setCell (Nat.le_refl _) (p := ⟨w1.heap.size, 2, none⟩) (.string (joinN ps (k + 1)))
        rw [joinN_succ ps k hlt] at F2 B2
        subst hA
        clear F B e
        go_wp2_with fail
        go_roundw
        case rel => exact ⟨k + 1, by omega, by go_num, by rw [joinN_succ ps k hlt]; exact F2, B2⟩
        case measure => simp [intOf]; omega
      · obtain rfl : k = ps.length := by omega
        have hZ2 : wr.heap[w.heap.size]? = some (.cells none_found 122 (0, 0)) := (B.block _ hwlt).trans HZ.out
        have c0 : wr.cell? ⟨w1.heap.size, 0, none⟩ = some (.int .i64 (g : Int)) := by simp [World.cell?, F]
        have c1 : wr.cell? ⟨w1.heap.size, 1, none⟩ = some (.int .i64 (q : Int)) := by simp [World.cell?, F]
        have c2 : wr.cell? ⟨w1.heap.size, 2, none⟩ = some (.string (joinN ps ps.length)) := by simp [World.cell?, F]
        have c3 : wr.cell? ⟨w1.heap.size, 3, none⟩ = some (.slice none 0 0) := by simp [World.cell?, F]
        have c4 : wr.cell? ⟨w1.heap.size, 4, none⟩ = some (.int .i64 (en : Int)) := by simp [World.cell?, F]
        have f3 : wr.frozen? ⟨w1.heap.size, 3, none⟩ = false := by simp [World.frozen?, F]
        have z0_ : wr.cell? ⟨w.heap.size, 0, none⟩ = some (.int .i64 0) := by simp [World.cell?, hZ2, none_found]
        have z1_ : wr.cell? ⟨w.heap.size, 1, none⟩ = some (.int .i64 0) := by simp [World.cell?, hZ2, none_found]
        have z2_ : wr.cell? ⟨w.heap.size, 2, none⟩ = some (.string ⟨#[]⟩) := by simp [World.cell?, hZ2, none_found]
        have z3_ : wr.cell? ⟨w.heap.size, 3, none⟩ = some (.slice none 0 0) := by simp [World.cell?, hZ2, none_found]
        have z4_ : wr.cell? ⟨w.heap.size, 4, none⟩ = some (.int .i64 0) := by simp [World.cell?, hZ2, none_found]
        have g0 : wr.frozen? ⟨w.heap.size, 0, none⟩ = false := by simp [World.frozen?, hZ2]
        have g1 : wr.frozen? ⟨w.heap.size, 1, none⟩ = false := by simp [World.frozen?, hZ2]
        have g2 : wr.frozen? ⟨w.heap.size, 2, none⟩ = false := by simp [World.frozen?, hZ2]
        have g3 : wr.frozen? ⟨w.heap.size, 3, none⟩ = false := by simp [World.frozen?, hZ2]
        have g4 : wr.frozen? ⟨w.heap.size, 4, none⟩ = false := by simp [World.frozen?, hZ2]
        have hne1 : w.heap.size ≠ w1.heap.size := by omega
        have hne2 : w1.heap.size ≠ w.heap.size := by omega
        have F3 := put_at (i := 3) (v := .slice AB l.length (cp - (1 + ps.length))) F
        have Z3 : (wr.setCell ⟨w1.heap.size, 3, none⟩ (.slice AB l.length (cp - (1 + ps.length)))).heap[w.heap.size]? = some (.cells none_found 122 (0, 0)) := (Below.heap_setCell _ _ _ _ hne1).trans hZ2
        have HZ3 := Lib.hid Z3
        have BB := (B1.trans (B.mono (Nat.le_of_lt hwlt))).setCell (Nat.le_of_lt hwlt) (p := ⟨w1.heap.size, 3, none⟩) (.slice AB l.length (cp - (1 + ps.length)))
        have KB : KeepBut w1 (wr.setCell ⟨w1.heap.size, 3, none⟩ (.slice AB l.length (cp - (1 + ps.length)))) w.heap.size none := ⟨by have := B.size; simpa using this, fun i hi _ _ => (Below.heap_setCell _ _ _ _ (show i ≠ w1.heap.size by omega)).trans (B.block i hi)⟩
        have HKB := Lib.hid KB
        clear F F3 Z3 hZ2 B KB
        go_wp2_with fail
        refine bodyPost_ret (resF Try.results70 _ w.heap.size #[.int .i64 (g : Int), .int .i64 (q : Int), .string (joinN ps ps.length), .slice AB l.length (cp - (1 + ps.length)), .int .i64 (en : Int)] rfl (.bool true) _ rfl rfl ?_) rfl ⟨AB, cp - (1 + ps.length), rfl, ?_, ?_⟩
        · exact put_at (put_at (put_at (put_at (put_at HZ3.out))))
        · have M := (HM2.out.oks (ok' := fun k => k ≠ w.heap.size) (fun k hk _ _ => by
            have hkb : k = gb := by
              cases AB with
              | none => simp [Value.ownBlock] at hk
              | some ad => simp only [Value.ownBlock, Option.some.injEq] at hk; rw [← hk]; exact HAB.out ad rfl
            rw [hkb]; exact hgn)).low (B' := w.heap.size) (by simp)
          exact M.keepbut (((((HKB.out.set_ 0 _).set_ 1 _).set_ 2 _).set_ 3 _).set_ 4 _)
        · exact ((((BB.setCell (Nat.le_refl _) _).setCell (Nat.le_refl _) _).setCell (Nat.le_refl _) _).setCell (Nat.le_refl _) _).setCell (Nat.le_refl _) _
set_option maxRecDepth 100000 in
set_option maxHeartbeats 8000000 in
theorem look_bad1 (s : ByteArray) (hs : s.size ≤ 1048576) (hd : ByteArray) (g q n : Nat) (r : List ByteArray) (en : Nat) (er : Int) (w : World) (hr : Facts.readL (Facts.L s) = (hd :: r, en, er)) (hh : Facts.L hd = sevenL g ++ (sevenL q ++ sevenL n))
    (hg0 : 1 ≤ g) (hg : g ≤ 1000000000) (hq : q ≤ 1000000000) (hn : n ≤ 1000000000) (hl : r.length < n) :
    Calls Try.prog 70 #[.string s] w fun e w' => e = .returned (.tuple #[.agg none_found, .bool false]) ∧ Below w.heap.size w w' := by
  have R := read_any s (by omega)
  rw [hr] at R
  dsimp only at R
  have z : hd.size = 21 := by rw [← Facts.L_len, hh]; rfl
  have h1 : Facts.L (hd.extract 7 hd.size) = sevenL q ++ sevenL n := by rw [Facts.L_extract, hh, List.take_of_length_le (by rw [z]; simp [sevenL_len]), List.drop_left' (sevenL_len g)]
  have h2 : Facts.L (hd.extract 14 hd.size) = sevenL n ++ [] := by
    rw [Facts.L_extract, hh, List.take_of_length_le (by rw [z]; simp [sevenL_len]), ← List.append_assoc, List.drop_left' (by simp [sevenL_len]), List.append_nil]
  have U0 := uns_any hd g _ hh (by omega)
  have U1 := uns_any (hd.extract 7 hd.size) q _ h1 (by omega)
  have U2 := uns_any (hd.extract 14 hd.size) n _ h2 (by omega)
  rw [z] at U1 U2
  clear h1 h2 hh hr
  go_enter Try.func70, Try.ntmps70
  go_wp2_with fail
  refine (R _).mono ?_; rintro e w1 ⟨v, rfl, r1, b1⟩
  obtain ⟨gb, cp, rfl, hgb, hgl, _⟩ := Kd.R_form r1 (by simp)
  have C1 := (Kd.R_reads' r1).2.2
  have hcp := (Kd.R_reads' r1).2.1
  have x0 := (Kd.R_cell ByteArray.empty r1 0 (by omega) (by simp)).1
  replace x0 : w1.cell? ⟨gb, 0, none⟩ = some (.string hd) := x0
  have hlen : (hd :: r).length = r.length + 1 := by simp
  rw [hlen] at hcp
  rw [hlen]
  clear hlen
  clear r1 R
  go_wp2_with fail
  have hda : ∀ (k : Nat) (o : Obj), (w1.drewN k).alloc o = (w1.alloc o).drewN k := fun _ _ => rfl
  have hnn := World.new_ne w1 ⟨gb, 0, none⟩ x0
  go_region_held3 (fun w' => w'.cell? ⟨gb, 0, none⟩ = some (.string hd)) (go_keep) (first
    | (go_at_call_of 75 (Value.string hd); refine (U0 _).mono ?_; rintro e w2 ⟨rfl, q2, rfl⟩)
    | (go_at_call 75; refine (U1 _).mono ?_; rintro e w3 ⟨rfl, q3, rfl⟩))
  all_goals
    generalize hX : World.setCell (World.setCell (World.setCell (World.setCell (World.setCell ((w1.alloc (Obj.cells #[.int .i64 0, .int .i64 0, .string ⟨#[]⟩, .slice none 0 0, .int .i64 0] 122)).drewN (1 + q2 + q3)) ⟨w1.heap.size, 0, none⟩ (.int .i64 (g : Int))) ⟨w1.heap.size, 1, none⟩ (.int .i64 (q : Int))) ⟨w1.heap.size, 2, none⟩ (.string ⟨#[]⟩)) ⟨w1.heap.size, 3, none⟩ (.slice none 0 0)) ⟨w1.heap.size, 4, none⟩ (.int .i64 (en : Int)) = X
    have XF : X.heap[w1.heap.size]? = some (.cells #[.int .i64 (g : Int), .int .i64 (q : Int), .string ⟨#[]⟩, .slice none 0 0, .int .i64 (en : Int)] 122 (0, 0)) := by
      rw [← hX]
      exact put_at (put_at (put_at (put_at (put_at (show ((w1.alloc (Obj.cells #[.int .i64 0, .int .i64 0, .string ⟨#[]⟩, .slice none 0 0, .int .i64 0] 122)).drewN (1 + q2 + q3)).heap[w1.heap.size]? = _ from heap_alloc_new _ _)))))
    have XB : Below w1.heap.size w1 X := by
      rw [← hX]
      have XB0 : Below w1.heap.size w1 ((w1.alloc (Obj.cells #[.int .i64 0, .int .i64 0, .string ⟨#[]⟩, .slice none 0 0, .int .i64 0] 122)).drewN (1 + q2 + q3)) := ((Below.refl w1.heap.size w1).alloc (Nat.le_refl _) _).trans ⟨rfl, rfl, rfl, Nat.le_refl _, fun _ _ => rfl⟩
      exact ((((XB0.setCell (Nat.le_refl _) _).setCell (Nat.le_refl _) _).setCell (Nat.le_refl _) _).setCell (Nat.le_refl _) _).setCell (Nat.le_refl _) _
    have X0 : X.cell? ⟨gb, 0, none⟩ = some (.string hd) := by unfold World.cell? at x0 ⊢; rw [XB.block gb hgl]; exact x0
    clear hX x0
    have z0 : X.cell? ⟨w1.heap.size, 0, none⟩ = some (.int .i64 (g : Int)) := by simp [World.cell?, XF]
    go_wp2_with fail
    refine (U2 _).mono ?_; rintro e w4 ⟨rfl, q4, rfl⟩
    have YF : (X.drewN q4).heap[w1.heap.size]? = some (.cells #[.int .i64 (g : Int), .int .i64 (q : Int), .string ⟨#[]⟩, .slice none 0 0, .int .i64 (en : Int)] 122 (0, 0)) := XF
    have YB : Below w1.heap.size w1 (X.drewN q4) := XB.trans ⟨rfl, rfl, rfl, Nat.le_refl _, fun _ _ => rfl⟩
    clear U0 U1 U2 hda hnn XF XB X0 z0
    generalize X.drewN q4 = Y at *
    have z0 : Y.cell? ⟨w1.heap.size, 0, none⟩ = some (.int .i64 (g : Int)) := by simp [World.cell?, YF]
    have hgg : decide ((g : Int) < 1) = false := decide_eq_false (by omega)
    have hnq : decide ((r.length : Int) + 1 ≤ (n : Int)) = true := decide_eq_true (by omega)
    clear hg hg0
    have hZ : w1.heap[w.heap.size]? = some (.cells none_found 122 (0, 0)) := (b1.block _ (by simp)).trans (heap_alloc_new _ _)
    have B1 : Below w.heap.size w w1 := ((Below.refl _ _).alloc (Nat.le_refl _) _).trans (b1.mono (by simp))
    have hwlt := lt_of_block hZ
    have hZ2 : Y.heap[w.heap.size]? = some (.cells none_found 122 (0, 0)) := (YB.block _ hwlt).trans hZ
    have BB := B1.trans (YB.mono (Nat.le_of_lt hwlt))
    clear hZ b1 hgb C1 hcp hl YF YB B1
    have z0_ : Y.cell? ⟨w.heap.size, 0, none⟩ = some (.int .i64 0) := by simp [World.cell?, hZ2, none_found]
    have z1_ : Y.cell? ⟨w.heap.size, 1, none⟩ = some (.int .i64 0) := by simp [World.cell?, hZ2, none_found]
    have z2_ : Y.cell? ⟨w.heap.size, 2, none⟩ = some (.string ⟨#[]⟩) := by simp [World.cell?, hZ2, none_found]
    have z3_ : Y.cell? ⟨w.heap.size, 3, none⟩ = some (.slice none 0 0) := by simp [World.cell?, hZ2, none_found]
    have z4_ : Y.cell? ⟨w.heap.size, 4, none⟩ = some (.int .i64 0) := by simp [World.cell?, hZ2, none_found]
    have g0 : Y.frozen? ⟨w.heap.size, 0, none⟩ = false := by simp [World.frozen?, hZ2]
    have g1 : Y.frozen? ⟨w.heap.size, 1, none⟩ = false := by simp [World.frozen?, hZ2]
    have g2 : Y.frozen? ⟨w.heap.size, 2, none⟩ = false := by simp [World.frozen?, hZ2]
    have g3 : Y.frozen? ⟨w.heap.size, 3, none⟩ = false := by simp [World.frozen?, hZ2]
    have g4 : Y.frozen? ⟨w.heap.size, 4, none⟩ = false := by simp [World.frozen?, hZ2]
    have HZ := Lib.hid hZ2
    clear hZ2
    go_wp2_with fail
    refine bodyPost_ret (resF Try.results70 _ w.heap.size none_found rfl (.bool false) _ rfl rfl ?_) rfl ⟨rfl, ?_⟩
    · exact put_at (put_at (put_at (put_at (put_at HZ.out))))
    · exact ((((BB.setCell (Nat.le_refl _) _).setCell (Nat.le_refl _) _).setCell (Nat.le_refl _) _).setCell (Nat.le_refl _) _).setCell (Nat.le_refl _) _
end Go.Proofs.Ytejfdiiennnjjaa.J
