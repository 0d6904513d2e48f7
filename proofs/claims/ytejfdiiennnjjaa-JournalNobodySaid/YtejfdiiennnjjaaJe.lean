/- journal's Turn, where the disk takes it; Commands. -/
import Derived.Test.YtejfdiiennnjjaaJd
namespace Go.Proofs.Ytejfdiiennnjjaa.J
open Go.RowKit Go.Proofs Go.Proofs.Ytejfdiiennnjjaa Go.Proofs.YtejfdiiennnjjaaW.PrintWords Go.Proofs.YtejfdiiennnjjaaW.PrintLast Go.Proofs.YtejfdiiennnjjaaW.PrintMore Go.Proofs.Ytejfdiiennnjjaa.D
set_option linter.unusedVariables false

set_option maxRecDepth 100000 in
theorem Commands_nil (w : World) : Calls Try.prog 47 #[.pointer none] w fun e w' => e = .returned (.slice none 0 0) ∧ w' = w := by
  go_enter Try.func47, Try.ntmps47
  go_wp2
  go_ret
  exact ⟨rfl, rfl⟩
set_option maxRecDepth 100000 in
set_option maxHeartbeats 4000000 in
theorem Commands_any (jb B : Nat) (j : Jn) (l : List ByteArray) (ok : Nat → Prop) (w : World) (h : Is jb j w) (hc : Kd.R Kd.string 9 w B ok j.cv l) (hl : l.length ≤ 1000000000) :
    Calls Try.prog 47 #[.pointer (some ⟨jb, 0, none⟩)] w fun e w' => ∃ v, e = .returned v ∧ Kd.R Kd.string 9 w' w.heap.size (fun _ => True) v l ∧ Below w.heap.size w w' := by
  obtain ⟨A, c, hv, _, hC⟩ := Kd.R_reads hc
  have c5 := h.c5
  rw [hv] at c5
  clear hc h
  go_enter Try.func47, Try.ntmps47
  go_wp2_with (first
    | ((with_reducible refine gate_builtin (b := .append) (xs := #[.const (.slice none 0 0), .tmp 8]) rfl ?_); at_builtin
       refine Kd.R_append_rows Kd.string (w0 := w) w.heap.size rfl (.const (.slice none 0 0)) (.tmp 8) 32 9 (.string ⟨#[]⟩) 16 rfl Try.underlying32 info9 rfl (by decide) (by omega) (.slice none 0 0) [] l _ _ _ (fun _ => True) (fun _ => False) rfl rfl ?aO ?aR (fun _ _ h => h) (fun _ h => h.elim) ?aF ?aB ?aS ?aL ?_
       (case aR => exact hC)
       (case aB => exact Below.refl _ _)
       (case aF => exact fun _ _ => trivial)
       (case aO => exact Kd.R_nil _ _ _ _ _)
       (case aS => exact Nat.le_refl _)
       (case aL => simp; omega)
       intro v1 w1 ho hb hg hat
       rw [List.nil_append] at ho
       clear hg hat))
  go_ret
  exact ⟨_, rfl, ho, hb⟩
/-- The commands are put away. -/
theorem Jo.clear {jb B : Nat} {j : Jn} {l : List ByteArray} {d : Dk} {w : World} (h : Jo jb j l d B w) : Jo jb { j with cv := .slice none 0 0 } [] d B (w.setCell ⟨jb, 5, none⟩ (.slice none 0 0)) := by
  have g : ∀ c, c ≠ jb → (w.setCell ⟨jb, 5, none⟩ (.slice none 0 0)).heap[c]? = w.heap[c]? := fun c hc => Below.heap_setCell _ _ _ _ hc
  exact ⟨h.jn.p5 _, (g _ (fun x => h.ne x.symm)).trans h.dk, Kd.R_nil _ _ _ _ _, h.ne, h.bj, h.bd⟩
theorem i64w (n : Int) (h0 : 0 ≤ n) (h1 : n < 9223372036854775808) : IntKind.i64.wrap n = n := by
  unfold IntKind.wrap
  simp [IntKind.bits, IntKind.signed]
  omega
theorem Jo.laterN {jb B n : Nat} {j : Jn} {l : List ByteArray} {d : Dk} {w w' : World} (h : Jo jb j l d B w) (hb : Below (w.drewN n).heap.size (w.drewN n) w') : Jo jb j l d B w' ∧ Below B w w' :=
  ⟨(h.drewN n).later hb, (⟨rfl, rfl, rfl, Nat.le_refl _, fun _ _ => rfl⟩ : Below B w (w.drewN n)).trans (hb.mono (by have := lt_of_block h.jn; have := h.bj; show B ≤ w.heap.size; omega))⟩
/-- The journal behind a turn. -/
def turnJ (j : Jn) (q : Nat) (st : ByteArray) : Jn := { j with file := 1 - j.file, gen := j.gen + 1, seq := j.seq + q, state := st, cv := .slice none 0 0 }
def turnD (d : Dk) (o : Int) (s : ByteArray) : Dk := synD (appD (cutD d o 0) o s) o

set_option maxRecDepth 100000 in
set_option maxHeartbeats 16000000 in
theorem Turn_at0 (jb B : Nat) (j : Jn) (l : List ByteArray) (d : Dk) (g q : Nat) (st : ByteArray) (w : World) (h : Jo jb j l d B w) (hf : d.Fits) (hj : j.dead = false) (hfile : j.file = 0) (hg : j.gen = (g : Nat)) (hq : j.seq = (q : Nat)) (hgb : g ≤ 1000000000) (hqb : q ≤ 1000000000) (hl : l.length ≤ 1000000000) (hs : st.size ≤ 1000000)
    (hz : (lay (g + 1) (q + l.length) st).size ≤ 1048576) (c0 : cutN d 1 0 = 0) (a0 : appN (cutD d 1 0) 1 (lay (g + 1) (q + l.length) st) = 0) (y0 : synN (appD (cutD d 1 0) 1 (lay (g + 1) (q + l.length) st)) 1 = 0) :
    Calls Try.prog 45 #[.pointer (some ⟨jb, 0, none⟩), .string st] w fun e w' => e = .returned (.int .i64 0) ∧ Jo jb (turnJ j l.length st) [] (turnD d 1 (lay (g + 1) (q + l.length) st)) B w' ∧ Below B w w' := by
  obtain ⟨A, c, hv, _, hC⟩ := Kd.R_reads h.cm
  have R := ready_any jb j w h.jn
  unfold jrdy at R
  rw [hj, if_neg (by simp)] at R
  have L := fun w' => lay_any (g + 1) (q + l.length) st (by omega) (by omega) (by omega) w'
  push_cast at L
  have S := fun w' (h' : Is jb j w') => Seq_any jb j A l.length c w' h' hv (by omega) (by omega) (by omega)
  rw [hq] at S
  unfold turnD
  generalize lay (g + 1) (q + l.length) st = s at *
  have hwr := i64w ((g : Int) + 1) (by omega) (by omega)
  clear hC
  go_enter Try.func45, Try.ntmps45
  go_wp2_with fail
  refine R.mono ?_; rintro e w1 ⟨rfl, rfl⟩
  clear R
  have c2 := h.jn.c2
  rw [hg] at c2
  have h1 : Jo jb j l d B w1.drew := ⟨h.jn, h.dk, Kd.R_drew h.cm, h.ne, h.bj, h.bd⟩
  go_wp2_with fail
  go_region_with (first
    | (go_at_call 48; refine (S _ (show Is jb j w1.drew from h.jn)).mono ?_; rintro e w2 ⟨rfl, nq, rfl⟩)
    | (go_at_call 69; (try rw [hwr]); refine (L _).mono ?_; rintro e w3 ⟨rfl, b3⟩))
  all_goals
    obtain ⟨h3, B3⟩ := h.laterN b3
    clear b3 h1 c2 h
    have c0_ := h3.jn.c0
    have c1_ := h3.jn.c1
    rw [hfile] at c1_
    go_wp2_with fail
    refine (D.Cut_any j.db d 1 0 _ h3.dk hf).mono ?_; rintro e w4 ⟨rfl, T4⟩
    rw [c0]
    have h4 := h3.turn T4
    have B4 := B3.trans (T4.below B h3.bd)
    clear T4 c0_ c1_ h3 B3
    have c0_ := h4.jn.c0
    go_wp2_with fail
    refine (D.Append_any j.db _ 1 s _ h4.dk (cutD_fits hf _ _)).mono ?_; rintro e w5 ⟨rfl, T4⟩
    rw [a0]
    have h5 := h4.turn T4
    have B5 := B4.trans (T4.below B h4.bd)
    clear T4 c0_ h4 B4
    have c0_ := h5.jn.c0
    go_wp2_with fail
    refine (D.Sync_any j.db _ 1 _ h5.dk (appD_fits (cutD_fits hf _ _) _ _)).mono ?_; rintro e w6 ⟨rfl, T4⟩
    rw [y0]
    have h6 := h5.turn T4
    have B6 := B5.trans (T4.below B h5.bd)
    clear T4 c0_ h5 B5
    go_wp2_with fail
    refine (S w6 h6.jn).mono ?_; rintro e w7 ⟨rfl, nq7, rfl⟩
    have h7 := h6.drewN nq7
    have B7 : Below B w1 (w6.drewN nq7) := B6.trans ⟨rfl, rfl, rfl, Nat.le_refl _, fun _ _ => rfl⟩
    clear h6 B6 S L
    generalize w6.drewN nq7 = w7 at *
    have q1 := h7.jn.c1
    have q2 := h7.jn.c2
    have q3 := h7.jn.c3
    have q4 := h7.jn.c4
    have q5 := h7.jn.c5
    rw [hg] at q2
    rw [hv] at q5
    have f1 := h7.jn.f1
    have f2 := h7.jn.f2
    have f3 := h7.jn.f3
    have f4 := h7.jn.f4
    have f5 := h7.jn.f5
    have e : turnJ j l.length st = { j with file := 1, gen := (g : Int) + 1, seq := (q : Int) + (l.length : Int), state := st, cv := .slice none 0 0 } := by unfold turnJ; rw [hfile, hg, hq]; congr 1
    have J1 := h7.put (h7.jn.p3 ((q : Int) + (l.length : Int))) rfl rfl
    have J2 := J1.put (J1.jn.p1 1) rfl rfl
    have J3 := J2.put (J2.jn.p2 ((g : Int) + 1)) rfl rfl
    have J4 := J3.put (J3.jn.p4 st) rfl rfl
    have J5 := J4.clear
    have hbj := h7.bj
    clear J1 J2 J3 J4 h7
    go_wp2_with fail
    go_ret
    rw [e]
    exact ⟨rfl, J5, ((((B7.setCell hbj _).setCell hbj _).setCell hbj _).setCell hbj _).setCell hbj _⟩

set_option maxRecDepth 100000 in
set_option maxHeartbeats 16000000 in
theorem Turn_at1 (jb B : Nat) (j : Jn) (l : List ByteArray) (d : Dk) (g q : Nat) (st : ByteArray) (w : World) (h : Jo jb j l d B w) (hf : d.Fits) (hj : j.dead = false) (hfile : j.file = 1) (hg : j.gen = (g : Nat)) (hq : j.seq = (q : Nat)) (hgb : g ≤ 1000000000) (hqb : q ≤ 1000000000) (hl : l.length ≤ 1000000000) (hs : st.size ≤ 1000000)
    (hz : (lay (g + 1) (q + l.length) st).size ≤ 1048576) (c0 : cutN d 0 0 = 0) (a0 : appN (cutD d 0 0) 0 (lay (g + 1) (q + l.length) st) = 0) (y0 : synN (appD (cutD d 0 0) 0 (lay (g + 1) (q + l.length) st)) 0 = 0) :
    Calls Try.prog 45 #[.pointer (some ⟨jb, 0, none⟩), .string st] w fun e w' => e = .returned (.int .i64 0) ∧ Jo jb (turnJ j l.length st) [] (turnD d 0 (lay (g + 1) (q + l.length) st)) B w' ∧ Below B w w' := by
  obtain ⟨A, c, hv, _, hC⟩ := Kd.R_reads h.cm
  have R := ready_any jb j w h.jn
  unfold jrdy at R
  rw [hj, if_neg (by simp)] at R
  have L := fun w' => lay_any (g + 1) (q + l.length) st (by omega) (by omega) (by omega) w'
  push_cast at L
  have S := fun w' (h' : Is jb j w') => Seq_any jb j A l.length c w' h' hv (by omega) (by omega) (by omega)
  rw [hq] at S
  unfold turnD
  generalize lay (g + 1) (q + l.length) st = s at *
  have hwr := i64w ((g : Int) + 1) (by omega) (by omega)
  clear hC
  go_enter Try.func45, Try.ntmps45
  go_wp2_with fail
  refine R.mono ?_; rintro e w1 ⟨rfl, rfl⟩
  clear R
  have c2 := h.jn.c2
  rw [hg] at c2
  have h1 : Jo jb j l d B w1.drew := ⟨h.jn, h.dk, Kd.R_drew h.cm, h.ne, h.bj, h.bd⟩
  go_wp2_with fail
  go_region_with (first
    | (go_at_call 48; refine (S _ (show Is jb j w1.drew from h.jn)).mono ?_; rintro e w2 ⟨rfl, nq, rfl⟩)
    | (go_at_call 69; (try rw [hwr]); refine (L _).mono ?_; rintro e w3 ⟨rfl, b3⟩))
  all_goals
    obtain ⟨h3, B3⟩ := h.laterN b3
    clear b3 h1 c2 h
    have c0_ := h3.jn.c0
    have c1_ := h3.jn.c1
    rw [hfile] at c1_
    go_wp2_with fail
    refine (D.Cut_any j.db d 0 0 _ h3.dk hf).mono ?_; rintro e w4 ⟨rfl, T4⟩
    rw [c0]
    have h4 := h3.turn T4
    have B4 := B3.trans (T4.below B h3.bd)
    clear T4 c0_ c1_ h3 B3
    have c0_ := h4.jn.c0
    go_wp2_with fail
    refine (D.Append_any j.db _ 0 s _ h4.dk (cutD_fits hf _ _)).mono ?_; rintro e w5 ⟨rfl, T4⟩
    rw [a0]
    have h5 := h4.turn T4
    have B5 := B4.trans (T4.below B h4.bd)
    clear T4 c0_ h4 B4
    have c0_ := h5.jn.c0
    go_wp2_with fail
    refine (D.Sync_any j.db _ 0 _ h5.dk (appD_fits (cutD_fits hf _ _) _ _)).mono ?_; rintro e w6 ⟨rfl, T4⟩
    rw [y0]
    have h6 := h5.turn T4
    have B6 := B5.trans (T4.below B h5.bd)
    clear T4 c0_ h5 B5
    go_wp2_with fail
    refine (S w6 h6.jn).mono ?_; rintro e w7 ⟨rfl, nq7, rfl⟩
    have h7 := h6.drewN nq7
    have B7 : Below B w1 (w6.drewN nq7) := B6.trans ⟨rfl, rfl, rfl, Nat.le_refl _, fun _ _ => rfl⟩
    clear h6 B6 S L
    generalize w6.drewN nq7 = w7 at *
    have q1 := h7.jn.c1
    have q2 := h7.jn.c2
    have q3 := h7.jn.c3
    have q4 := h7.jn.c4
    have q5 := h7.jn.c5
    rw [hg] at q2
    rw [hv] at q5
    have f1 := h7.jn.f1
    have f2 := h7.jn.f2
    have f3 := h7.jn.f3
    have f4 := h7.jn.f4
    have f5 := h7.jn.f5
    have e : turnJ j l.length st = { j with file := 0, gen := (g : Int) + 1, seq := (q : Int) + (l.length : Int), state := st, cv := .slice none 0 0 } := by unfold turnJ; rw [hfile, hg, hq]; congr 1
    have J1 := h7.put (h7.jn.p3 ((q : Int) + (l.length : Int))) rfl rfl
    have J2 := J1.put (J1.jn.p1 0) rfl rfl
    have J3 := J2.put (J2.jn.p2 ((g : Int) + 1)) rfl rfl
    have J4 := J3.put (J3.jn.p4 st) rfl rfl
    have J5 := J4.clear
    have hbj := h7.bj
    clear J1 J2 J3 J4 h7
    go_wp2_with fail
    go_ret
    rw [e]
    exact ⟨rfl, J5, ((((B7.setCell hbj _).setCell hbj _).setCell hbj _).setCell hbj _).setCell hbj _⟩
end Go.Proofs.Ytejfdiiennnjjaa.J
