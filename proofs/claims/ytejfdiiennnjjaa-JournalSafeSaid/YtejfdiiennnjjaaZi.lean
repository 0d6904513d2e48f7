/- journal's Turn at either file: where the disk takes it, and where the disk stops at the cut, the append, the sync. -/
import Derived.Test.YtejfdiiennnjjaaZh
namespace Go.Proofs.Ytejfdiiennnjjaa.J
open Go.RowKit Go.Proofs Go.Proofs.Ytejfdiiennnjjaa Go.Proofs.YtejfdiiennnjjaaW.PrintWords Go.Proofs.YtejfdiiennnjjaaW.PrintLast Go.Proofs.YtejfdiiennnjjaaW.PrintMore Go.Proofs.Ytejfdiiennnjjaa.D
set_option linter.unusedVariables false

theorem ft_clear (jb : Nat) (j : Jn) : ∀ k, ft jb { j with cv := .slice none 0 0 } k → ft jb j k := by
  rintro k (rfl | rfl | e)
  · exact .inl rfl
  · exact .inr (.inl rfl)
  · simp [Value.ownBlock] at e
theorem Ko.laterN {jb B n : Nat} {j : Jn} {l : List ByteArray} {d : Dk} {F : Nat → Prop} {w0 w w' : World} (h : Ko jb j l d B w) (t : Tread (ft jb j) w0 w (ft jb j)) (hb : Below (w.drewN n).heap.size (w.drewN n) w') : Ko jb j l d B w' ∧ Tread (ft jb j) w0 w' (ft jb j) :=
  ⟨(h.drewN n).later hb, (t.drewN n).later hb⟩
set_option maxRecDepth 100000 in
set_option maxHeartbeats 16000000 in
theorem ko_turn0 (jb B : Nat) (j : Jn) (l : List ByteArray) (d : Dk) (g q : Nat) (st : ByteArray) (w : World) (h : Ko jb j l d B w) (hf : d.Fits) (hj : j.dead = false) (hfile : j.file = 0) (hg : j.gen = (g : Nat)) (hq : j.seq = (q : Nat)) (hgb : g ≤ 1000000000) (hqb : q ≤ 1000000000) (hl : l.length ≤ 1000000000) (hs : st.size ≤ 1000000)
    (hz : (lay (g + 1) (q + l.length) st).size ≤ 1048576) (c0 : cutN d 1 0 = 0) (a0 : appN (cutD d 1 0) 1 (lay (g + 1) (q + l.length) st) = 0) (y0 : synN (appD (cutD d 1 0) 1 (lay (g + 1) (q + l.length) st)) 1 = 0) :
    Calls Try.prog 45 #[.pointer (some ⟨jb, 0, none⟩), .string st] w fun e w' => e = .returned (.int .i64 0) ∧ Ko jb (turnJ j l.length st) [] (turnD d 1 (lay (g + 1) (q + l.length) st)) B w' ∧ Tread (ft jb j) w w' (ft jb (turnJ j l.length st)) := by
  obtain ⟨A, c, hv, _, _⟩ := h.cm.reads hl
  have R := ready_any jb j w h.jn
  unfold jrdy at R
  rw [hj, if_neg (by simp)] at R
  have L := fun w' => lay_any (g + 1) (q + l.length) st (by omega) (by omega) (by omega) w'
  push_cast at L
  have S := fun w' (h' : Is jb j w') => Seq_any jb j A l.length c w' h' hv (by omega) (by omega) (by omega)
  rw [hq] at S
  unfold turnD
  generalize lay (g + 1) (q + l.length) st = s at *
  have hwr := i64w ((g : Int) + 1) (by omega) (by omega)
  go_enter Try.func45, Try.ntmps45
  go_wp2_with fail
  refine R.mono ?_; rintro e w1 ⟨rfl, rfl⟩
  clear R
  have c2 := h.jn.c2
  rw [hg] at c2
  have h1 : Ko jb j l d B w1.drew := ⟨h.jn, h.dk, h.cm.drewN 1, h.ne, h.bj, h.bd⟩
  have T0 := Tread.refl (ft jb j) w1
  go_wp2_with fail
  go_region_with (first
    | (go_at_call 48; refine (S _ (show Is jb j w1.drew from h.jn)).mono ?_; rintro e w2 ⟨rfl, nq, rfl⟩)
    | (go_at_call 69; (try rw [hwr]); refine (L _).mono ?_; rintro e w3 ⟨rfl, b3⟩))
  all_goals
    obtain ⟨h3, B3⟩ := h.laterN (F := ft jb j) T0 b3
    clear b3 h1 c2 h T0
    have c0_ := h3.jn.c0
    have c1_ := h3.jn.c1
    rw [hfile] at c1_
    go_wp2_with fail
    refine (D.Cut_any j.db d 1 0 _ h3.dk hf).mono ?_; rintro e w4 ⟨rfl, T4⟩
    rw [c0]
    have h4 := h3.turn T4
    have B4 := B3.turn T4
    clear T4 c0_ c1_ h3 B3
    have c0_ := h4.jn.c0
    go_wp2_with fail
    refine (D.Append_any j.db _ 1 s _ h4.dk (cutD_fits hf _ _)).mono ?_; rintro e w5 ⟨rfl, T4⟩
    rw [a0]
    have h5 := h4.turn T4
    have B5 := B4.turn T4
    clear T4 c0_ h4 B4
    have c0_ := h5.jn.c0
    go_wp2_with fail
    refine (D.Sync_any j.db _ 1 _ h5.dk (appD_fits (cutD_fits hf _ _) _ _)).mono ?_; rintro e w6 ⟨rfl, T4⟩
    rw [y0]
    have h6 := h5.turn T4
    have B6 := B5.turn T4
    clear T4 c0_ h5 B5
    go_wp2_with fail
    refine (S w6 h6.jn).mono ?_; rintro e w7 ⟨rfl, nq7, rfl⟩
    have h7 := h6.drewN nq7
    have B7 := B6.drewN nq7
    clear h6 B6 S L
    generalize w6.drewN nq7 = w7 at *
    have q1 := h7.jn.c1
    have q2 := h7.jn.c2
    have q3 := h7.jn.c3
    have q4 := h7.jn.c4
    have q5 := h7.jn.c5
    rw [hg] at q2
    rw [hv] at q5
    have f1 := h7.jn.f1
    have f2 := h7.jn.f2
    have f3 := h7.jn.f3
    have f4 := h7.jn.f4
    have f5 := h7.jn.f5
    have e : turnJ j l.length st = { j with file := 1, gen := (g : Int) + 1, seq := (q : Int) + (l.length : Int), state := st, cv := .slice none 0 0 } := by unfold turnJ; rw [hfile, hg, hq]; congr 1
    have J1 := h7.put (h7.jn.p3 ((q : Int) + (l.length : Int))) rfl rfl
    have J2 := J1.put (J1.jn.p1 1) rfl rfl
    have J3 := J2.put (J2.jn.p2 ((g : Int) + 1)) rfl rfl
    have J4 := J3.put (J3.jn.p4 st) rfl rfl
    have J5 := J4.clear
    clear J1 J2 J3 J4 h7
    go_wp2_with fail
    go_ret
    rw [e]
    exact ⟨rfl, J5, (((((B7.put (.inl rfl) _).put (.inl rfl) _).put (.inl rfl) _).put (.inl rfl) _).put (.inl rfl) _).less (fun _ h => h) (ft_clear jb j)⟩
set_option maxRecDepth 100000 in
set_option maxHeartbeats 16000000 in
theorem ko_turn_c0 (jb B : Nat) (j : Jn) (l : List ByteArray) (d : Dk) (g q : Nat) (st : ByteArray) (w : World) (h : Ko jb j l d B w) (hf : d.Fits) (hj : j.dead = false) (hfile : j.file = 0) (hg : j.gen = (g : Nat)) (hq : j.seq = (q : Nat)) (hgb : g ≤ 1000000000) (hqb : q ≤ 1000000000) (hl : l.length ≤ 1000000000) (hs : st.size ≤ 1000000)
    (hz : (lay (g + 1) (q + l.length) st).size ≤ 1048576) (c0 : cutN d 1 0 = 13) :
    Calls Try.prog 45 #[.pointer (some ⟨jb, 0, none⟩), .string st] w (Fell j.db (cutD d 1 0) (ft jb j) w) := by
  obtain ⟨A, c, hv, _, _⟩ := h.cm.reads hl
  have R := ready_any jb j w h.jn
  unfold jrdy at R
  rw [hj, if_neg (by simp)] at R
  have L := fun w' => lay_any (g + 1) (q + l.length) st (by omega) (by omega) (by omega) w'
  push_cast at L
  have S := fun w' (h' : Is jb j w') => Seq_any jb j A l.length c w' h' hv (by omega) (by omega) (by omega)
  rw [hq] at S
  generalize lay (g + 1) (q + l.length) st = s at *
  have hwr := i64w ((g : Int) + 1) (by omega) (by omega)
  go_enter Try.func45, Try.ntmps45
  go_wp2_with fail
  refine R.mono ?_; rintro e w1 ⟨rfl, rfl⟩
  clear R
  have c2 := h.jn.c2
  rw [hg] at c2
  have h1 : Ko jb j l d B w1.drew := ⟨h.jn, h.dk, h.cm.drewN 1, h.ne, h.bj, h.bd⟩
  have T0 := Tread.refl (ft jb j) w1
  go_wp2_with fail
  go_region_with (first
    | (go_at_call 48; refine (S _ (show Is jb j w1.drew from h.jn)).mono ?_; rintro e w2 ⟨rfl, nq, rfl⟩)
    | (go_at_call 69; (try rw [hwr]); refine (L _).mono ?_; rintro e w3 ⟨rfl, b3⟩))
  all_goals
    obtain ⟨h3, B3⟩ := h.laterN (F := ft jb j) T0 b3
    clear b3 h1 c2 h T0
    have c0_ := h3.jn.c0
    have c1_ := h3.jn.c1
    rw [hfile] at c1_
    go_wp2_with fail
    refine (D.Cut_any j.db d 1 0 _ h3.dk hf).mono ?_; rintro e w4 ⟨rfl, T4⟩
    rw [c0]
    have h4 := h3.turn T4
    have B4 := B3.turn T4
    clear T4 c0_ c1_ h3 B3
    have c6 := h4.jn.c6
    have f6 := h4.jn.f6
    clear S L
    go_wp2_with fail
    go_ret
    exact ⟨rfl, (Below.heap_setCell _ _ _ _ (fun x => h4.ne x.symm)).trans h4.dk, (B4.put (.inl rfl) _).less (fun _ h => h) (fun _ h => .inr (.inl h))⟩
set_option maxRecDepth 100000 in
set_option maxHeartbeats 16000000 in
theorem ko_turn_a0 (jb B : Nat) (j : Jn) (l : List ByteArray) (d : Dk) (g q : Nat) (st : ByteArray) (w : World) (h : Ko jb j l d B w) (hf : d.Fits) (hj : j.dead = false) (hfile : j.file = 0) (hg : j.gen = (g : Nat)) (hq : j.seq = (q : Nat)) (hgb : g ≤ 1000000000) (hqb : q ≤ 1000000000) (hl : l.length ≤ 1000000000) (hs : st.size ≤ 1000000)
    (hz : (lay (g + 1) (q + l.length) st).size ≤ 1048576) (c0 : cutN d 1 0 = 0) (a0 : appN (cutD d 1 0) 1 (lay (g + 1) (q + l.length) st) = 13) :
    Calls Try.prog 45 #[.pointer (some ⟨jb, 0, none⟩), .string st] w (Fell j.db (appD (cutD d 1 0) 1 (lay (g + 1) (q + l.length) st)) (ft jb j) w) := by
  obtain ⟨A, c, hv, _, _⟩ := h.cm.reads hl
  have R := ready_any jb j w h.jn
  unfold jrdy at R
  rw [hj, if_neg (by simp)] at R
  have L := fun w' => lay_any (g + 1) (q + l.length) st (by omega) (by omega) (by omega) w'
  push_cast at L
  have S := fun w' (h' : Is jb j w') => Seq_any jb j A l.length c w' h' hv (by omega) (by omega) (by omega)
  rw [hq] at S
  generalize lay (g + 1) (q + l.length) st = s at *
  have hwr := i64w ((g : Int) + 1) (by omega) (by omega)
  go_enter Try.func45, Try.ntmps45
  go_wp2_with fail
  refine R.mono ?_; rintro e w1 ⟨rfl, rfl⟩
  clear R
  have c2 := h.jn.c2
  rw [hg] at c2
  have h1 : Ko jb j l d B w1.drew := ⟨h.jn, h.dk, h.cm.drewN 1, h.ne, h.bj, h.bd⟩
  have T0 := Tread.refl (ft jb j) w1
  go_wp2_with fail
  go_region_with (first
    | (go_at_call 48; refine (S _ (show Is jb j w1.drew from h.jn)).mono ?_; rintro e w2 ⟨rfl, nq, rfl⟩)
    | (go_at_call 69; (try rw [hwr]); refine (L _).mono ?_; rintro e w3 ⟨rfl, b3⟩))
  all_goals
    obtain ⟨h3, B3⟩ := h.laterN (F := ft jb j) T0 b3
    clear b3 h1 c2 h T0
    have c0_ := h3.jn.c0
    have c1_ := h3.jn.c1
    rw [hfile] at c1_
    go_wp2_with fail
    refine (D.Cut_any j.db d 1 0 _ h3.dk hf).mono ?_; rintro e w4 ⟨rfl, T4⟩
    rw [c0]
    have h4 := h3.turn T4
    have B4 := B3.turn T4
    clear T4 c0_ c1_ h3 B3
    have c0_ := h4.jn.c0
    go_wp2_with fail
    refine (D.Append_any j.db _ 1 s _ h4.dk (cutD_fits hf _ _)).mono ?_; rintro e w5 ⟨rfl, T4⟩
    rw [a0]
    have h5 := h4.turn T4
    have B5 := B4.turn T4
    clear T4 c0_ h4 B4
    have c6 := h5.jn.c6
    have f6 := h5.jn.f6
    clear S L
    go_wp2_with fail
    go_ret
    exact ⟨rfl, (Below.heap_setCell _ _ _ _ (fun x => h5.ne x.symm)).trans h5.dk, (B5.put (.inl rfl) _).less (fun _ h => h) (fun _ h => .inr (.inl h))⟩
set_option maxRecDepth 100000 in
set_option maxHeartbeats 16000000 in
theorem ko_turn_y0 (jb B : Nat) (j : Jn) (l : List ByteArray) (d : Dk) (g q : Nat) (st : ByteArray) (w : World) (h : Ko jb j l d B w) (hf : d.Fits) (hj : j.dead = false) (hfile : j.file = 0) (hg : j.gen = (g : Nat)) (hq : j.seq = (q : Nat)) (hgb : g ≤ 1000000000) (hqb : q ≤ 1000000000) (hl : l.length ≤ 1000000000) (hs : st.size ≤ 1000000)
    (hz : (lay (g + 1) (q + l.length) st).size ≤ 1048576) (c0 : cutN d 1 0 = 0) (a0 : appN (cutD d 1 0) 1 (lay (g + 1) (q + l.length) st) = 0) (y0 : synN (appD (cutD d 1 0) 1 (lay (g + 1) (q + l.length) st)) 1 = 13) :
    Calls Try.prog 45 #[.pointer (some ⟨jb, 0, none⟩), .string st] w (Fell j.db (turnD d 1 (lay (g + 1) (q + l.length) st)) (ft jb j) w) := by
  obtain ⟨A, c, hv, _, _⟩ := h.cm.reads hl
  have R := ready_any jb j w h.jn
  unfold jrdy at R
  rw [hj, if_neg (by simp)] at R
  have L := fun w' => lay_any (g + 1) (q + l.length) st (by omega) (by omega) (by omega) w'
  push_cast at L
  have S := fun w' (h' : Is jb j w') => Seq_any jb j A l.length c w' h' hv (by omega) (by omega) (by omega)
  rw [hq] at S
  unfold turnD
  generalize lay (g + 1) (q + l.length) st = s at *
  have hwr := i64w ((g : Int) + 1) (by omega) (by omega)
  go_enter Try.func45, Try.ntmps45
  go_wp2_with fail
  refine R.mono ?_; rintro e w1 ⟨rfl, rfl⟩
  clear R
  have c2 := h.jn.c2
  rw [hg] at c2
  have h1 : Ko jb j l d B w1.drew := ⟨h.jn, h.dk, h.cm.drewN 1, h.ne, h.bj, h.bd⟩
  have T0 := Tread.refl (ft jb j) w1
  go_wp2_with fail
  go_region_with (first
    | (go_at_call 48; refine (S _ (show Is jb j w1.drew from h.jn)).mono ?_; rintro e w2 ⟨rfl, nq, rfl⟩)
    | (go_at_call 69; (try rw [hwr]); refine (L _).mono ?_; rintro e w3 ⟨rfl, b3⟩))
  all_goals
    obtain ⟨h3, B3⟩ := h.laterN (F := ft jb j) T0 b3
    clear b3 h1 c2 h T0
    have c0_ := h3.jn.c0
    have c1_ := h3.jn.c1
    rw [hfile] at c1_
    go_wp2_with fail
    refine (D.Cut_any j.db d 1 0 _ h3.dk hf).mono ?_; rintro e w4 ⟨rfl, T4⟩
    rw [c0]
    have h4 := h3.turn T4
    have B4 := B3.turn T4
    clear T4 c0_ c1_ h3 B3
    have c0_ := h4.jn.c0
    go_wp2_with fail
    refine (D.Append_any j.db _ 1 s _ h4.dk (cutD_fits hf _ _)).mono ?_; rintro e w5 ⟨rfl, T4⟩
    rw [a0]
    have h5 := h4.turn T4
    have B5 := B4.turn T4
    clear T4 c0_ h4 B4
    have c0_ := h5.jn.c0
    go_wp2_with fail
    refine (D.Sync_any j.db _ 1 _ h5.dk (appD_fits (cutD_fits hf _ _) _ _)).mono ?_; rintro e w6 ⟨rfl, T4⟩
    rw [y0]
    have h6 := h5.turn T4
    have B6 := B5.turn T4
    clear T4 c0_ h5 B5
    have c6 := h6.jn.c6
    have f6 := h6.jn.f6
    clear S L
    go_wp2_with fail
    go_ret
    exact ⟨rfl, (Below.heap_setCell _ _ _ _ (fun x => h6.ne x.symm)).trans h6.dk, (B6.put (.inl rfl) _).less (fun _ h => h) (fun _ h => .inr (.inl h))⟩
set_option maxRecDepth 100000 in
set_option maxHeartbeats 16000000 in
theorem ko_turn1 (jb B : Nat) (j : Jn) (l : List ByteArray) (d : Dk) (g q : Nat) (st : ByteArray) (w : World) (h : Ko jb j l d B w) (hf : d.Fits) (hj : j.dead = false) (hfile : j.file = 1) (hg : j.gen = (g : Nat)) (hq : j.seq = (q : Nat)) (hgb : g ≤ 1000000000) (hqb : q ≤ 1000000000) (hl : l.length ≤ 1000000000) (hs : st.size ≤ 1000000)
    (hz : (lay (g + 1) (q + l.length) st).size ≤ 1048576) (c0 : cutN d 0 0 = 0) (a0 : appN (cutD d 0 0) 0 (lay (g + 1) (q + l.length) st) = 0) (y0 : synN (appD (cutD d 0 0) 0 (lay (g + 1) (q + l.length) st)) 0 = 0) :
    Calls Try.prog 45 #[.pointer (some ⟨jb, 0, none⟩), .string st] w fun e w' => e = .returned (.int .i64 0) ∧ Ko jb (turnJ j l.length st) [] (turnD d 0 (lay (g + 1) (q + l.length) st)) B w' ∧ Tread (ft jb j) w w' (ft jb (turnJ j l.length st)) := by
  obtain ⟨A, c, hv, _, _⟩ := h.cm.reads hl
  have R := ready_any jb j w h.jn
  unfold jrdy at R
  rw [hj, if_neg (by simp)] at R
  have L := fun w' => lay_any (g + 1) (q + l.length) st (by omega) (by omega) (by omega) w'
  push_cast at L
  have S := fun w' (h' : Is jb j w') => Seq_any jb j A l.length c w' h' hv (by omega) (by omega) (by omega)
  rw [hq] at S
  unfold turnD
  generalize lay (g + 1) (q + l.length) st = s at *
  have hwr := i64w ((g : Int) + 1) (by omega) (by omega)
  go_enter Try.func45, Try.ntmps45
  go_wp2_with fail
  refine R.mono ?_; rintro e w1 ⟨rfl, rfl⟩
  clear R
  have c2 := h.jn.c2
  rw [hg] at c2
  have h1 : Ko jb j l d B w1.drew := ⟨h.jn, h.dk, h.cm.drewN 1, h.ne, h.bj, h.bd⟩
  have T0 := Tread.refl (ft jb j) w1
  go_wp2_with fail
  go_region_with (first
    | (go_at_call 48; refine (S _ (show Is jb j w1.drew from h.jn)).mono ?_; rintro e w2 ⟨rfl, nq, rfl⟩)
    | (go_at_call 69; (try rw [hwr]); refine (L _).mono ?_; rintro e w3 ⟨rfl, b3⟩))
  all_goals
    obtain ⟨h3, B3⟩ := h.laterN (F := ft jb j) T0 b3
    clear b3 h1 c2 h T0
    have c0_ := h3.jn.c0
    have c1_ := h3.jn.c1
    rw [hfile] at c1_
    go_wp2_with fail
    refine (D.Cut_any j.db d 0 0 _ h3.dk hf).mono ?_; rintro e w4 ⟨rfl, T4⟩
    rw [c0]
    have h4 := h3.turn T4
    have B4 := B3.turn T4
    clear T4 c0_ c1_ h3 B3
    have c0_ := h4.jn.c0
    go_wp2_with fail
    refine (D.Append_any j.db _ 0 s _ h4.dk (cutD_fits hf _ _)).mono ?_; rintro e w5 ⟨rfl, T4⟩
    rw [a0]
    have h5 := h4.turn T4
    have B5 := B4.turn T4
    clear T4 c0_ h4 B4
    have c0_ := h5.jn.c0
    go_wp2_with fail
    refine (D.Sync_any j.db _ 0 _ h5.dk (appD_fits (cutD_fits hf _ _) _ _)).mono ?_; rintro e w6 ⟨rfl, T4⟩
    rw [y0]
    have h6 := h5.turn T4
    have B6 := B5.turn T4
    clear T4 c0_ h5 B5
    go_wp2_with fail
    refine (S w6 h6.jn).mono ?_; rintro e w7 ⟨rfl, nq7, rfl⟩
    have h7 := h6.drewN nq7
    have B7 := B6.drewN nq7
    clear h6 B6 S L
    generalize w6.drewN nq7 = w7 at *
    have q1 := h7.jn.c1
    have q2 := h7.jn.c2
    have q3 := h7.jn.c3
    have q4 := h7.jn.c4
    have q5 := h7.jn.c5
    rw [hg] at q2
    rw [hv] at q5
    have f1 := h7.jn.f1
    have f2 := h7.jn.f2
    have f3 := h7.jn.f3
    have f4 := h7.jn.f4
    have f5 := h7.jn.f5
    have e : turnJ j l.length st = { j with file := 0, gen := (g : Int) + 1, seq := (q : Int) + (l.length : Int), state := st, cv := .slice none 0 0 } := by unfold turnJ; rw [hfile, hg, hq]; congr 1
    have J1 := h7.put (h7.jn.p3 ((q : Int) + (l.length : Int))) rfl rfl
    have J2 := J1.put (J1.jn.p1 0) rfl rfl
    have J3 := J2.put (J2.jn.p2 ((g : Int) + 1)) rfl rfl
    have J4 := J3.put (J3.jn.p4 st) rfl rfl
    have J5 := J4.clear
    clear J1 J2 J3 J4 h7
    go_wp2_with fail
    go_ret
    rw [e]
    exact ⟨rfl, J5, (((((B7.put (.inl rfl) _).put (.inl rfl) _).put (.inl rfl) _).put (.inl rfl) _).put (.inl rfl) _).less (fun _ h => h) (ft_clear jb j)⟩
set_option maxRecDepth 100000 in
set_option maxHeartbeats 16000000 in
theorem ko_turn_c1 (jb B : Nat) (j : Jn) (l : List ByteArray) (d : Dk) (g q : Nat) (st : ByteArray) (w : World) (h : Ko jb j l d B w) (hf : d.Fits) (hj : j.dead = false) (hfile : j.file = 1) (hg : j.gen = (g : Nat)) (hq : j.seq = (q : Nat)) (hgb : g ≤ 1000000000) (hqb : q ≤ 1000000000) (hl : l.length ≤ 1000000000) (hs : st.size ≤ 1000000)
    (hz : (lay (g + 1) (q + l.length) st).size ≤ 1048576) (c0 : cutN d 0 0 = 13) :
    Calls Try.prog 45 #[.pointer (some ⟨jb, 0, none⟩), .string st] w (Fell j.db (cutD d 0 0) (ft jb j) w) := by
  obtain ⟨A, c, hv, _, _⟩ := h.cm.reads hl
  have R := ready_any jb j w h.jn
  unfold jrdy at R
  rw [hj, if_neg (by simp)] at R
  have L := fun w' => lay_any (g + 1) (q + l.length) st (by omega) (by omega) (by omega) w'
  push_cast at L
  have S := fun w' (h' : Is jb j w') => Seq_any jb j A l.length c w' h' hv (by omega) (by omega) (by omega)
  rw [hq] at S
  generalize lay (g + 1) (q + l.length) st = s at *
  have hwr := i64w ((g : Int) + 1) (by omega) (by omega)
  go_enter Try.func45, Try.ntmps45
  go_wp2_with fail
  refine R.mono ?_; rintro e w1 ⟨rfl, rfl⟩
  clear R
  have c2 := h.jn.c2
  rw [hg] at c2
  have h1 : Ko jb j l d B w1.drew := ⟨h.jn, h.dk, h.cm.drewN 1, h.ne, h.bj, h.bd⟩
  have T0 := Tread.refl (ft jb j) w1
  go_wp2_with fail
  go_region_with (first
    | (go_at_call 48; refine (S _ (show Is jb j w1.drew from h.jn)).mono ?_; rintro e w2 ⟨rfl, nq, rfl⟩)
    | (go_at_call 69; (try rw [hwr]); refine (L _).mono ?_; rintro e w3 ⟨rfl, b3⟩))
  all_goals
    obtain ⟨h3, B3⟩ := h.laterN (F := ft jb j) T0 b3
    clear b3 h1 c2 h T0
    have c0_ := h3.jn.c0
    have c1_ := h3.jn.c1
    rw [hfile] at c1_
    go_wp2_with fail
    refine (D.Cut_any j.db d 0 0 _ h3.dk hf).mono ?_; rintro e w4 ⟨rfl, T4⟩
    rw [c0]
    have h4 := h3.turn T4
    have B4 := B3.turn T4
    clear T4 c0_ c1_ h3 B3
    have c6 := h4.jn.c6
    have f6 := h4.jn.f6
    clear S L
    go_wp2_with fail
    go_ret
    exact ⟨rfl, (Below.heap_setCell _ _ _ _ (fun x => h4.ne x.symm)).trans h4.dk, (B4.put (.inl rfl) _).less (fun _ h => h) (fun _ h => .inr (.inl h))⟩
set_option maxRecDepth 100000 in
set_option maxHeartbeats 16000000 in
theorem ko_turn_a1 (jb B : Nat) (j : Jn) (l : List ByteArray) (d : Dk) (g q : Nat) (st : ByteArray) (w : World) (h : Ko jb j l d B w) (hf : d.Fits) (hj : j.dead = false) (hfile : j.file = 1) (hg : j.gen = (g : Nat)) (hq : j.seq = (q : Nat)) (hgb : g ≤ 1000000000) (hqb : q ≤ 1000000000) (hl : l.length ≤ 1000000000) (hs : st.size ≤ 1000000)
    (hz : (lay (g + 1) (q + l.length) st).size ≤ 1048576) (c0 : cutN d 0 0 = 0) (a0 : appN (cutD d 0 0) 0 (lay (g + 1) (q + l.length) st) = 13) :
    Calls Try.prog 45 #[.pointer (some ⟨jb, 0, none⟩), .string st] w (Fell j.db (appD (cutD d 0 0) 0 (lay (g + 1) (q + l.length) st)) (ft jb j) w) := by
  obtain ⟨A, c, hv, _, _⟩ := h.cm.reads hl
  have R := ready_any jb j w h.jn
  unfold jrdy at R
  rw [hj, if_neg (by simp)] at R
  have L := fun w' => lay_any (g + 1) (q + l.length) st (by omega) (by omega) (by omega) w'
  push_cast at L
  have S := fun w' (h' : Is jb j w') => Seq_any jb j A l.length c w' h' hv (by omega) (by omega) (by omega)
  rw [hq] at S
  generalize lay (g + 1) (q + l.length) st = s at *
  have hwr := i64w ((g : Int) + 1) (by omega) (by omega)
  go_enter Try.func45, Try.ntmps45
  go_wp2_with fail
  refine R.mono ?_; rintro e w1 ⟨rfl, rfl⟩
  clear R
  have c2 := h.jn.c2
  rw [hg] at c2
  have h1 : Ko jb j l d B w1.drew := ⟨h.jn, h.dk, h.cm.drewN 1, h.ne, h.bj, h.bd⟩
  have T0 := Tread.refl (ft jb j) w1
  go_wp2_with fail
  go_region_with (first
    | (go_at_call 48; refine (S _ (show Is jb j w1.drew from h.jn)).mono ?_; rintro e w2 ⟨rfl, nq, rfl⟩)
    | (go_at_call 69; (try rw [hwr]); refine (L _).mono ?_; rintro e w3 ⟨rfl, b3⟩))
  all_goals
    obtain ⟨h3, B3⟩ := h.laterN (F := ft jb j) T0 b3
    clear b3 h1 c2 h T0
    have c0_ := h3.jn.c0
    have c1_ := h3.jn.c1
    rw [hfile] at c1_
    go_wp2_with fail
    refine (D.Cut_any j.db d 0 0 _ h3.dk hf).mono ?_; rintro e w4 ⟨rfl, T4⟩
    rw [c0]
    have h4 := h3.turn T4
    have B4 := B3.turn T4
    clear T4 c0_ c1_ h3 B3
    have c0_ := h4.jn.c0
    go_wp2_with fail
    refine (D.Append_any j.db _ 0 s _ h4.dk (cutD_fits hf _ _)).mono ?_; rintro e w5 ⟨rfl, T4⟩
    rw [a0]
    have h5 := h4.turn T4
    have B5 := B4.turn T4
    clear T4 c0_ h4 B4
    have c6 := h5.jn.c6
    have f6 := h5.jn.f6
    clear S L
    go_wp2_with fail
    go_ret
    exact ⟨rfl, (Below.heap_setCell _ _ _ _ (fun x => h5.ne x.symm)).trans h5.dk, (B5.put (.inl rfl) _).less (fun _ h => h) (fun _ h => .inr (.inl h))⟩
set_option maxRecDepth 100000 in
set_option maxHeartbeats 16000000 in
theorem ko_turn_y1 (jb B : Nat) (j : Jn) (l : List ByteArray) (d : Dk) (g q : Nat) (st : ByteArray) (w : World) (h : Ko jb j l d B w) (hf : d.Fits) (hj : j.dead = false) (hfile : j.file = 1) (hg : j.gen = (g : Nat)) (hq : j.seq = (q : Nat)) (hgb : g ≤ 1000000000) (hqb : q ≤ 1000000000) (hl : l.length ≤ 1000000000) (hs : st.size ≤ 1000000)
    (hz : (lay (g + 1) (q + l.length) st).size ≤ 1048576) (c0 : cutN d 0 0 = 0) (a0 : appN (cutD d 0 0) 0 (lay (g + 1) (q + l.length) st) = 0) (y0 : synN (appD (cutD d 0 0) 0 (lay (g + 1) (q + l.length) st)) 0 = 13) :
    Calls Try.prog 45 #[.pointer (some ⟨jb, 0, none⟩), .string st] w (Fell j.db (turnD d 0 (lay (g + 1) (q + l.length) st)) (ft jb j) w) := by
  obtain ⟨A, c, hv, _, _⟩ := h.cm.reads hl
  have R := ready_any jb j w h.jn
  unfold jrdy at R
  rw [hj, if_neg (by simp)] at R
  have L := fun w' => lay_any (g + 1) (q + l.length) st (by omega) (by omega) (by omega) w'
  push_cast at L
  have S := fun w' (h' : Is jb j w') => Seq_any jb j A l.length c w' h' hv (by omega) (by omega) (by omega)
  rw [hq] at S
  unfold turnD
  generalize lay (g + 1) (q + l.length) st = s at *
  have hwr := i64w ((g : Int) + 1) (by omega) (by omega)
  go_enter Try.func45, Try.ntmps45
  go_wp2_with fail
  refine R.mono ?_; rintro e w1 ⟨rfl, rfl⟩
  clear R
  have c2 := h.jn.c2
  rw [hg] at c2
  have h1 : Ko jb j l d B w1.drew := ⟨h.jn, h.dk, h.cm.drewN 1, h.ne, h.bj, h.bd⟩
  have T0 := Tread.refl (ft jb j) w1
  go_wp2_with fail
  go_region_with (first
    | (go_at_call 48; refine (S _ (show Is jb j w1.drew from h.jn)).mono ?_; rintro e w2 ⟨rfl, nq, rfl⟩)
    | (go_at_call 69; (try rw [hwr]); refine (L _).mono ?_; rintro e w3 ⟨rfl, b3⟩))
  all_goals
    obtain ⟨h3, B3⟩ := h.laterN (F := ft jb j) T0 b3
    clear b3 h1 c2 h T0
    have c0_ := h3.jn.c0
    have c1_ := h3.jn.c1
    rw [hfile] at c1_
    go_wp2_with fail
    refine (D.Cut_any j.db d 0 0 _ h3.dk hf).mono ?_; rintro e w4 ⟨rfl, T4⟩
    rw [c0]
    have h4 := h3.turn T4
    have B4 := B3.turn T4
    clear T4 c0_ c1_ h3 B3
    have c0_ := h4.jn.c0
    go_wp2_with fail
    refine (D.Append_any j.db _ 0 s _ h4.dk (cutD_fits hf _ _)).mono ?_; rintro e w5 ⟨rfl, T4⟩
    rw [a0]
    have h5 := h4.turn T4
    have B5 := B4.turn T4
    clear T4 c0_ h4 B4
    have c0_ := h5.jn.c0
    go_wp2_with fail
    refine (D.Sync_any j.db _ 0 _ h5.dk (appD_fits (cutD_fits hf _ _) _ _)).mono ?_; rintro e w6 ⟨rfl, T4⟩
    rw [y0]
    have h6 := h5.turn T4
    have B6 := B5.turn T4
    clear T4 c0_ h5 B5
    have c6 := h6.jn.c6
    have f6 := h6.jn.f6
    clear S L
    go_wp2_with fail
    go_ret
    exact ⟨rfl, (Below.heap_setCell _ _ _ _ (fun x => h6.ne x.symm)).trans h6.dk, (B6.put (.inl rfl) _).less (fun _ h => h) (fun _ h => .inr (.inl h))⟩
end Go.Proofs.Ytejfdiiennnjjaa.J
