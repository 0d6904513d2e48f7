/- A disk's two files, seen from one of them: what Append, Sync, Cut and a crash make of them, whatever the limit. What a journal's files tell behind a crash: plain laws of torn records, and what stays of a journal whose disk stops in Add or in Turn. The journal of JournalSafe, act by act: Add, Turn, a crash, Open, each by one contract; which blocks are its own. The law's own functions in JournalSafe: zero, joined. -/
import Derived.Test.YtejfdiiennnjjaaZb
import Derived.Test.YtejfdiiennnjjaaZf
import Derived.Test.YtejfdiiennnjjaaZk
import Derived.LoopTactic
namespace Go.Proofs.Ytejfdiiennnjjaa.J
open Go.RowKit Go.Proofs Go.Proofs.Ytejfdiiennnjjaa Go.Proofs.Ytejfdiiennnjjaa.D
set_option linter.unusedVariables false

/-- One of the first two files has the safe bytes A and behind them P, the other one C and Q. -/
structure Lie (d : Dk) (f : Int) (A P C Q : ByteArray) : Prop where
  made : d.made = true
  fits : d.Fits
  file : f = 0 ∨ f = 1
  s : d.s f = A
  l : d.l f = P
  s' : d.s (1 - f) = C
  l' : d.l (1 - f) = Q
theorem none_app' (x : ByteArray) : x ++ (⟨#[]⟩ : ByteArray) = x := ByteArray.append_empty
theorem app_none' (x : ByteArray) : (⟨#[]⟩ : ByteArray) ++ x = x := ByteArray.empty_append
section
variable {d : Dk} {f : Int} {A P C Q : ByteArray}
theorem Lie.of (h1 : d.made = true) (h2 : d.Fits) (h3 : f = 0 ∨ f = 1) (h : d.s f = A ∧ d.l f = P ∧ d.s (1 - f) = C ∧ d.l (1 - f) = Q) : Lie d f A P C Q := ⟨h1, h2, h3, h.1, h.2.1, h.2.2.1, h.2.2.2⟩
theorem Lie.swap (h : Lie d f A P C Q) : Lie d (1 - f) C Q A P := by
  have e : 1 - (1 - f) = f := by omega
  exact ⟨h.made, h.fits, by have := h.file; omega, h.s', h.l', by rw [e]; exact h.s, by rw [e]; exact h.l⟩
theorem Lie.rdy (h : Lie d f A P C Q) (ha : d.dead = false) : rdy d f = 0 := by
  have := h.file
  unfold D.rdy
  rw [if_neg (by rw [h.made]; simp), if_neg (by rw [ha]; simp), if_neg (by omega)]
theorem Lie.len (h : Lie d f A P C Q) : d.len f = A.size + P.size := by unfold Dk.len; rw [h.s, h.l]
theorem setS_s {d : Dk} {f : Int} (hf : f = 0 ∨ f = 1) (x : ByteArray) : (d.setS f x).s f = x ∧ (d.setS f x).s (1 - f) = d.s (1 - f) ∧ (d.setS f x).l f = d.l f ∧ (d.setS f x).l (1 - f) = d.l (1 - f) := by
  rcases hf with rfl | rfl <;> simp [Dk.setS, Dk.s, Dk.l]
theorem setL_l {d : Dk} {f : Int} (hf : f = 0 ∨ f = 1) (x : ByteArray) : (d.setL f x).l f = x ∧ (d.setL f x).l (1 - f) = d.l (1 - f) ∧ (d.setL f x).s f = d.s f ∧ (d.setL f x).s (1 - f) = d.s (1 - f) := by
  rcases hf with rfl | rfl <;> simp [Dk.setL, Dk.s, Dk.l]
theorem setS_dead (d : Dk) (i : Int) (x : ByteArray) : (d.setS i x).dead = d.dead ∧ (d.setS i x).left = d.left := by unfold Dk.setS; (repeat' split) <;> exact ⟨rfl, rfl⟩
theorem setL_dead (d : Dk) (i : Int) (x : ByteArray) : (d.setL i x).dead = d.dead ∧ (d.setL i x).left = d.left := by unfold Dk.setL; (repeat' split) <;> exact ⟨rfl, rfl⟩
/-- The limit behind a change. -/
def low (n : Int) : Int := if 0 < n then n - 1 else n
theorem useD_left {d : Dk} (h : d.left ≠ 0) : (useD d).left = low d.left ∧ (useD d).dead = d.dead := by
  unfold useD low
  rw [if_neg h]
  split <;> exact ⟨rfl, rfl⟩
theorem Lie.app_stop (h : Lie d f A ⟨#[]⟩ C Q) (ha : d.dead = false) (h0 : d.left = 0) (r : ByteArray) (hz : A.size + r.size ≤ 1048576) : appN d f r = 13 ∧ Lie (appD d f r) f A ⟨#[]⟩ C Q := by
  have hl := h.len
  rw [no_len] at hl
  refine ⟨?_, Lie.of (by rw [appD_made]; exact h.made) (appD_fits h.fits f r) h.file ?_⟩
  · unfold appN useN
    rw [h.rdy ha, if_neg (by simp), if_neg (by omega), if_pos h0]
  · unfold appD
    rw [h.rdy ha, if_neg (by simp), if_neg (by omega), if_pos h0, useD_s, useD_s, useD_l, useD_l]
    exact ⟨h.s, h.l, h.s', h.l'⟩
theorem Lie.app_go (h : Lie d f A ⟨#[]⟩ C Q) (ha : d.dead = false) (h0 : d.left ≠ 0) (r : ByteArray) (hz : A.size + r.size ≤ 1048576) : appN d f r = 0 ∧ Lie (appD d f r) f A r C Q ∧ (appD d f r).dead = false ∧ (appD d f r).left = low d.left := by
  have hl := h.len
  rw [no_len] at hl
  have e : appD d f r = (useD d).setL f r := by
    unfold appD
    rw [h.rdy ha, if_neg (by simp), if_neg (by omega), if_neg h0, h.l, app_none']
  have q := setL_l (d := useD d) h.file r
  have u := useD_left h0
  have z := setL_dead (useD d) f r
  refine ⟨?_, Lie.of (by rw [appD_made]; exact h.made) (appD_fits h.fits f r) h.file ?_, ?_⟩
  · unfold appN useN
    rw [h.rdy ha, if_neg (by simp), if_neg (by omega), if_neg h0]
  · rw [e, q.1, q.2.1, q.2.2.1, q.2.2.2, useD_s, useD_s, useD_l]
    exact ⟨h.s, rfl, h.s', h.l'⟩
  · rw [e, z.1, z.2, u.1, u.2]
    exact ⟨ha, rfl⟩
theorem Lie.syn_stop (h : Lie d f A P C Q) (ha : d.dead = false) (h0 : d.left = 0) : synN d f = 13 ∧ Lie (synD d f) f A P C Q := by
  refine ⟨?_, Lie.of (by rw [synD_made]; exact h.made) (synD_fits h.fits f) h.file ?_⟩
  · unfold synN useN
    rw [h.rdy ha, if_neg (by simp), if_pos h0]
  · unfold synD
    rw [h.rdy ha, if_neg (by simp), if_pos h0, useD_s, useD_s, useD_l, useD_l]
    exact ⟨h.s, h.l, h.s', h.l'⟩
theorem Lie.syn_go (h : Lie d f A P C Q) (ha : d.dead = false) (h0 : d.left ≠ 0) : synN d f = 0 ∧ Lie (synD d f) f (A ++ P) ⟨#[]⟩ C Q ∧ (synD d f).dead = false ∧ (synD d f).left = low d.left := by
  have e : synD d f = ((useD d).setS f (A ++ P)).setL f ⟨#[]⟩ := by
    unfold synD
    rw [h.rdy ha, if_neg (by simp), if_neg h0, h.s, h.l]
  have q := setL_l (d := (useD d).setS f (A ++ P)) h.file ⟨#[]⟩
  have q' := setS_s (d := useD d) h.file (A ++ P)
  have u := useD_left h0
  have z := setL_dead ((useD d).setS f (A ++ P)) f ⟨#[]⟩
  have z' := setS_dead (useD d) f (A ++ P)
  refine ⟨?_, Lie.of (by rw [synD_made]; exact h.made) (synD_fits h.fits f) h.file ?_, ?_⟩
  · unfold synN useN
    rw [h.rdy ha, if_neg (by simp), if_neg h0]
  · rw [e, q.1, q.2.1, q.2.2.1, q.2.2.2, q'.1, q'.2.1, q'.2.2.2, useD_s, useD_l]
    exact ⟨rfl, rfl, h.s', h.l'⟩
  · rw [e, z.1, z.2, z'.1, z'.2, u.1, u.2]
    exact ⟨ha, rfl⟩
theorem Lie.cut_stop (h : Lie d f A ⟨#[]⟩ C Q) (ha : d.dead = false) (h0 : d.left = 0) (n : Nat) (hn : n ≤ A.size) : cutN d f n = 13 ∧ Lie (cutD d f n) f A ⟨#[]⟩ C Q := by
  have hl := h.len
  rw [no_len] at hl
  refine ⟨?_, Lie.of (by rw [cutD_made]; exact h.made) (cutD_fits h.fits f n) h.file ?_⟩
  · unfold cutN useN
    rw [h.rdy ha, if_neg (by simp), if_neg (by omega), if_pos h0]
  · unfold cutD
    rw [h.rdy ha, if_neg (by simp), if_neg (by omega), if_pos h0, useD_s, useD_s, useD_l, useD_l]
    exact ⟨h.s, h.l, h.s', h.l'⟩
theorem Lie.cut_go (h : Lie d f A ⟨#[]⟩ C Q) (ha : d.dead = false) (h0 : d.left ≠ 0) (n : Nat) (hn : n ≤ A.size) : cutN d f n = 0 ∧ Lie (cutD d f n) f (A.extract 0 n) ⟨#[]⟩ C Q ∧ (cutD d f n).dead = false ∧ (cutD d f n).left = low d.left := by
  have hl := h.len
  rw [no_len] at hl
  have e : cutD d f n = ((useD d).setS f (A.extract 0 n)).setL f ⟨#[]⟩ := by
    unfold cutD
    rw [h.rdy ha, if_neg (by simp), if_neg (by omega), if_neg h0, if_pos (by rw [h.s]; omega), h.s, Int.toNat_natCast]
  have q := setL_l (d := (useD d).setS f (A.extract 0 n)) h.file ⟨#[]⟩
  have q' := setS_s (d := useD d) h.file (A.extract 0 n)
  have u := useD_left h0
  have z := setL_dead ((useD d).setS f (A.extract 0 n)) f ⟨#[]⟩
  have z' := setS_dead (useD d) f (A.extract 0 n)
  refine ⟨?_, Lie.of (by rw [cutD_made]; exact h.made) (cutD_fits h.fits f n) h.file ?_, ?_⟩
  · unfold cutN useN
    rw [h.rdy ha, if_neg (by simp), if_neg (by omega), if_neg h0]
  · rw [e, q.1, q.2.1, q.2.2.1, q.2.2.2, q'.1, q'.2.1, q'.2.2.2, useD_s, useD_l]
    exact ⟨rfl, rfl, h.s', h.l'⟩
  · rw [e, z.1, z.2, z'.1, z'.2, u.1, u.2]
    exact ⟨ha, rfl⟩
/-- Of the first two files' late bytes as many are kept. -/
def kp (k0 k1 f : Int) : Int := if f = 0 then k0 else k1
theorem Lie.crash (h : Lie d f A P C Q) (k0 k1 k2 k3 : Int) : Lie (crash d k0 k1 k2 k3) f (keep1 A P (kp k0 k1 f)) ⟨#[]⟩ (keep1 C Q (kp k0 k1 (1 - f))) ⟨#[]⟩ ∧ (D.crash d k0 k1 k2 k3).dead = false ∧ (D.crash d k0 k1 k2 k3).left = -1 := by
  have hm := h.made
  have hs := h.s
  have hl := h.l
  have hs' := h.s'
  have hl' := h.l'
  refine ⟨Lie.of hm (crash_fits h.fits _ _ _ _) h.file ?_, rfl, rfl⟩
  rcases h.file with rfl | rfl
  · simp only [Dk.s, Dk.l] at hs hl hs' hl'
    simp at hs hl hs' hl'
    simp [D.crash, Dk.s, Dk.l, kp, hs, hl, hs', hl']
  · simp only [Dk.s, Dk.l] at hs hl hs' hl'
    simp at hs hl hs' hl'
    simp [D.crash, Dk.s, Dk.l, kp, hs, hl, hs', hl']
theorem kept_all (x : ByteArray) (k : Int) : ∃ n, n ≤ x.size ∧ kept k x = n := ⟨_, kept_le k x, rfl⟩
theorem keep_none (A : ByteArray) (k : Int) : keep1 A ⟨#[]⟩ k = A := by
  unfold keep1
  have : (⟨#[]⟩ : ByteArray).extract 0 (kept k ⟨#[]⟩) = ⟨#[]⟩ := by apply ByteArray.ext; simp
  rw [this, none_app']
end
end Go.Proofs.Ytejfdiiennnjjaa.J
namespace Go.Proofs.Ytejfdiiennnjjaa.J
open Go.RowKit Go.Proofs Go.Proofs.Ytejfdiiennnjjaa.F Go.Proofs.Ytejfdiiennnjjaa.Facts Go.Proofs.YtejfdiiennnjjaaW.PrintWords Go.Proofs.Ytejfdiiennnjjaa Go.Proofs.Ytejfdiiennnjjaa.D
set_option linter.unusedVariables false

/-! ### torn ends -/
theorem readL_tail (r : List UInt8) (hr : r.length ≤ 4096) (k : Nat) (hk : k < r.length + 12) (l : List ByteArray) : okAll l = true → ∃ er, readL (flat l ++ (putL r).take k) = (l, (flat l).length, er) := by
  induction l with
  | nil =>
    intro _
    by_cases h0 : k = 0
    · subst h0
      exact ⟨0, by rw [readL_eq, if_pos (by rfl)]; rfl⟩
    · have hN := Facts.nextL_torn r [] hr k hk
      rw [List.append_nil] at hN
      have hne : ¬ flat [] ++ (putL r).take k = [] := fun e => by
        have h5 : ((putL r).take k).length = k := by rw [List.length_take, putL_len]; omega
        rw [show flat [] ++ (putL r).take k = (putL r).take k from rfl] at e
        rw [e] at h5; simp at h5; omega
      refine ⟨14, ?_⟩
      rw [readL_eq, if_neg hne, show flat [] ++ (putL r).take k = (putL r).take k from rfl, hN, if_neg (by decide)]
      rfl
  | cons s l ih =>
    intro h
    have hs : s.size ≤ 4096 ∧ okAll l = true := by
      unfold okAll at h ⊢; rw [List.all_cons, Bool.and_eq_true, decide_eq_true_eq] at h; exact h
    obtain ⟨er, hi⟩ := ih hs.2
    have hf : flat (s :: l) ++ (putL r).take k = putL (L s) ++ (flat l ++ (putL r).take k) := by simp [flat]
    have hlen := putL_len (L s)
    have hne : ¬ flat (s :: l) ++ (putL r).take k = [] := fun e => by
      rw [hf] at e
      have := List.append_eq_nil_iff.1 e
      rw [this.1] at hlen; simp at hlen
    have hN := J.nextL_put (L s) (flat l ++ (putL r).take k) (by rw [L_len]; exact hs.1)
    rw [← hf] at hN
    have hd : (flat (s :: l) ++ (putL r).take k).drop ((L s).length + 12) = flat l ++ (putL r).take k := by rw [hf, ← hlen, List.drop_left]
    refine ⟨er, ?_⟩
    rw [readL_eq, if_neg hne, hN, if_pos rfl, Int.toNat_natCast, hd, hi, S_L]
    have : (flat (s :: l)).length = (L s).length + 12 + (flat l).length := by simp [flat, hlen]
    rw [this]
theorem L_take (X : ByteArray) (k : Nat) : L (X.extract 0 k) = (L X).take k := by rw [L_extract, List.drop_zero]
theorem ext_all (X : ByteArray) (k : Nat) (h : X.size ≤ k) : X.extract 0 k = X := by
  apply L_ext
  rw [L_take, List.take_of_length_le (by rw [L_len]; exact h)]
theorem ok_cont (g q : Nat) (st : ByteArray) (l : List ByteArray) (hl : okAll l = true) : okAll (head g q st :: (chunks st ++ l)) = true := by
  have h1 : okAll (chunks st) = true := (chunksF_all (st.size + 1) st (by omega)).1
  have h2 := ok_append (chunks st) l
  rw [h1, hl] at h2
  unfold okAll at h2 ⊢
  rw [List.all_cons, head_size, h2]
  rfl
theorem chunks_few (st : ByteArray) : (chunks st).length * 4096 ≤ st.size + 4095 := (chunksF_all (st.size + 1) st (by omega)).2.1
theorem tells_cont (g q : Nat) (st : ByteArray) (l : List ByteArray) (hl : okAll l = true) (h1 : 1 ≤ g) (h2 : g ≤ 1000000000) (h3 : q ≤ 1000000000) (h4 : (chunks st).length + l.length ≤ 1000000) : Tells (cont g q st l) (some ⟨g, q, st, l, (cont g q st l).size⟩) :=
  ⟨0, cont_read g q st l hl, h1, h2, h3, h4⟩
theorem tells_torn (g q : Nat) (st : ByteArray) (l : List ByteArray) (c : ByteArray) (k : Nat) (hl : okAll l = true) (hc : c.size ≤ 4096) (hk : k < c.size + 12) (h1 : 1 ≤ g) (h2 : g ≤ 1000000000) (h3 : q ≤ 1000000000) (h4 : (chunks st).length + l.length ≤ 1000000) :
    Tells (cont g q st l ++ (rec1 c).extract 0 k) (some ⟨g, q, st, l, (cont g q st l).size⟩) ∧ (cont g q st l ++ (rec1 c).extract 0 k).extract 0 (cont g q st l).size = cont g q st l := by
  have e : L (cont g q st l ++ (rec1 c).extract 0 k) = flat (head g q st :: (chunks st ++ l)) ++ (putL (L c)).take k := by
    rw [L_append, L_take]
    unfold cont rec1
    rw [L_S, L_S]
  obtain ⟨er, hr⟩ := readL_tail (L c) (by rw [L_len]; exact hc) k (by rw [L_len]; exact hk) _ (ok_cont g q st l hl)
  have hz : (cont g q st l).size = (flat (head g q st :: (chunks st ++ l))).length := by unfold cont; rw [S_size]
  refine ⟨⟨er, by rw [e, hr, hz], h1, h2, h3, h4⟩, ?_⟩
  apply L_ext
  rw [L_take, L_append, List.take_left' (L_len _)]
theorem torn_whole (g q : Nat) (st : ByteArray) (l : List ByteArray) (c : ByteArray) (k : Nat) (hk : c.size + 12 ≤ k) : cont g q st l ++ (rec1 c).extract 0 k = cont g q st (l ++ [c]) := by
  rw [ext_all _ _ (by rw [rec1_size]; exact hk)]
  exact cont_add g q st l c
theorem tells_none : Tells ⟨#[]⟩ none := .inl ⟨0, 0, by rw [readL_eq, if_pos (by rfl)]⟩
theorem tells_part (g q : Nat) (st : ByteArray) (k : Nat) (hk : k < (lay g q st).size) (h1 : 1 ≤ g) (h2 : g ≤ 1000000000) (h3 : q ≤ 1000000000) (h4 : (chunks st).length ≤ 1000000000) : Tells ((lay g q st).extract 0 k) none := by
  have hk' : okAll (head g q st :: chunks st) = true := by
    have := ok_cont g q st [] rfl
    rwa [List.append_nil] at this
  have hz : (lay g q st).size = laid (head g q st :: chunks st) := by unfold lay; rw [S_size, flat_len]
  obtain ⟨n, hn, h5, h6, h7⟩ := readL_torn (head g q st :: chunks st) hk' k (by omega)
  have e : L ((lay g q st).extract 0 k) = (flat (head g q st :: chunks st)).take k := by
    rw [L_take]
    unfold lay
    rw [L_S]
  have hn' : n < (head g q st :: chunks st).length := by
    apply Classical.byContradiction
    intro c
    rw [List.take_of_length_le (by omega)] at h5
    omega
  cases n with
  | zero => exact .inl ⟨_, _, by rw [e, h7]; rfl⟩
  | succ m =>
    refine .inr ⟨g, q, (chunks st).length, head g q st, (chunks st).take m, _, _, by rw [e, h7]; rfl, head_L g q st, h1, h2, h3, h4, ?_⟩
    rw [List.length_take]
    simp at hn'
    omega

/-! ### what a journal has -/
/-- Commands as one text, a byte 0 behind each. -/
def joinT (l : List ByteArray) : ByteArray := S (l.flatMap fun s => L s ++ [0])
def NoZ (s : ByteArray) : Prop := s.size ≤ 4096 ∧ ∀ c ∈ L s, c ≠ 0
theorem joinT_size (l : List ByteArray) (h : ∀ s ∈ l, NoZ s) : (joinT l).size ≤ 4097 * l.length := by
  unfold joinT
  rw [S_size]
  induction l with
  | nil => simp
  | cons s l ih =>
    have h1 := (h s List.mem_cons_self).1
    have h2 := ih fun x hx => h x (List.mem_cons_of_mem _ hx)
    simp only [List.flatMap_cons, List.length_append, L_len, List.length_cons, List.length_nil]
    omega
theorem laid_size (l : List ByteArray) (h : ∀ s ∈ l, NoZ s) : laid l ≤ 4108 * l.length := by
  induction l with
  | nil => simp [laid]
  | cons s l ih =>
    have h1 := (h s List.mem_cons_self).1
    have h2 := ih fun x hx => h x (List.mem_cons_of_mem _ hx)
    rw [show laid (s :: l) = s.size + 12 + laid l by simp [laid], List.length_cons]
    omega
/-- A journal's record means these commands. -/
structure Has (g q : Nat) (st : ByteArray) (l all : List ByteArray) (m n : Nat) : Prop where
  g1 : 1 ≤ g
  gm : g ≤ m
  nn : all.length ≤ n
  nz : ∀ s ∈ all, NoZ s
  ex : ∃ a0, all = a0 ++ l ∧ st = joinT a0 ∧ q = a0.length
section
variable {g q : Nat} {st : ByteArray} {l all : List ByteArray} {m n : Nat}
theorem Has.q_le (h : Has g q st l all m n) : q + l.length = all.length := by
  obtain ⟨a0, h1, _, h3⟩ := h.ex
  rw [h1, List.length_append, h3]
theorem Has.nzl (h : Has g q st l all m n) : ∀ s ∈ l, NoZ s := by
  obtain ⟨a0, h1, _⟩ := h.ex
  exact fun s hs => h.nz s (by rw [h1]; exact List.mem_append_right _ hs)
theorem Has.ok (h : Has g q st l all m n) : okAll l = true := by
  unfold okAll
  exact List.all_eq_true.2 fun s hs => decide_eq_true (h.nzl s hs).1
theorem Has.st_le (h : Has g q st l all m n) : st.size ≤ 4097 * n := by
  obtain ⟨a0, h1, h2, _⟩ := h.ex
  have := joinT_size a0 fun s hs => h.nz s (by rw [h1]; exact List.mem_append_left _ hs)
  have h3 := h.nn
  rw [h1, List.length_append] at h3
  rw [h2]
  have : 4097 * a0.length ≤ 4097 * n := Nat.mul_le_mul_left _ (by omega)
  omega
theorem Has.few (h : Has g q st l all m n) (hn : n ≤ 40) : (chunks st).length + l.length ≤ 1000000 := by
  have := chunks_few st
  have := h.st_le
  have := h.q_le
  have := h.nn
  have : 4097 * n ≤ 4097 * 40 := Nat.mul_le_mul_left _ hn
  omega
theorem Has.size (h : Has g q st l all m n) (hn : n ≤ 40) : (cont g q st l).size ≤ 400000 := by
  have h1 := chunks_few st
  have h2 := h.st_le
  have h3 := h.q_le
  have h4 := h.nn
  have h5 : 4097 * n ≤ 4097 * 40 := Nat.mul_le_mul_left _ hn
  have h6 := laid_size l h.nzl
  have h7 : 4108 * l.length ≤ 4108 * 40 := Nat.mul_le_mul_left _ (by omega)
  have h8 := lay_size g q st
  have h9 : (cont g q st l).size = (lay g q st).size + laid l := by
    unfold cont lay
    rw [S_size, S_size, ← List.cons_append, flat_append, List.length_append, flat_len l]
  omega
theorem Has.tells (h : Has g q st l all m n) (hm : m ≤ 100) (hn : n ≤ 40) : Tells (cont g q st l) (some ⟨g, q, st, l, (cont g q st l).size⟩) :=
  tells_cont g q st l h.ok h.g1 (by have := h.gm; omega) (by have := h.q_le; have := h.nn; omega) (h.few hn)
theorem Has.more {m' n' : Nat} (h : Has g q st l all m n) (hm : m ≤ m') (hn : n ≤ n') : Has g q st l all m' n' := ⟨h.g1, Nat.le_trans h.gm hm, Nat.le_trans h.nn hn, h.nz, h.ex⟩
theorem Has.add (h : Has g q st l all m n) (c : ByteArray) (hc : NoZ c) : Has g q st (l ++ [c]) (all ++ [c]) m (n + 1) := by
  obtain ⟨a0, h1, h2, h3⟩ := h.ex
  refine ⟨h.g1, h.gm, by have := h.nn; simp; exact this, fun s hs => ?_, a0, by rw [h1, List.append_assoc], h2, h3⟩
  rcases List.mem_append.1 hs with c' | c'
  · exact h.nz s c'
  · rw [List.mem_singleton.1 c']; exact hc
theorem Has.turn (h : Has g q st l all m n) : Has (g + 1) (q + l.length) (joinT all) [] all (m + 1) n :=
  ⟨by omega, by have := h.gm; omega, h.nn, h.nz, all, by rw [List.append_nil], rfl, h.q_le⟩
end
/-- An open journal's disk. -/
def Op (d : Dk) (f : Int) (g q : Nat) (st : ByteArray) (l all : List ByteArray) (m n : Nat) : Prop :=
  d.dead = false ∧ Has g q st l all m n ∧ ∃ Y o, Lie d f (cont g q st l) ⟨#[]⟩ Y ⟨#[]⟩ ∧ Tells Y o ∧ gO o < g
/-- A disk behind a crash, on which a journal lies. -/
def Cl (d : Dk) (all : List ByteArray) (m n : Nat) : Prop :=
  d.dead = false ∧ d.left = -1 ∧ ∃ f g q st l, Has g q st l all m n ∧ ∃ X Y o, Lie d f X ⟨#[]⟩ Y ⟨#[]⟩ ∧ Tells X (some ⟨g, q, st, l, (cont g q st l).size⟩) ∧ X.extract 0 (cont g q st l).size = cont g q st l ∧ Tells Y o ∧ gO o < g
/-- A disk that stopped: behind any crash such a journal lies on it. -/
def De (d : Dk) (P : List ByteArray → Prop) (m n : Nat) : Prop := d.made = true ∧ d.Fits ∧ ∀ k0 k1 k2 k3, ∃ a, P a ∧ Cl (crash d k0 k1 k2 k3) a m n
theorem De.more {d : Dk} {P P' : List ByteArray → Prop} {m n : Nat} (h : De d P m n) (hP : ∀ a, P a → P' a) : De d P' m n :=
  ⟨h.1, h.2.1, fun k0 k1 k2 k3 => by obtain ⟨a, h1, h2⟩ := h.2.2 k0 k1 k2 k3; exact ⟨a, hP a h1, h2⟩⟩
theorem Cl.more {d : Dk} {all : List ByteArray} {m n m' n' : Nat} (h : Cl d all m n) (hm : m ≤ m') (hn : n ≤ n') : Cl d all m' n' := by
  obtain ⟨h1, h2, f, g, q, st, l, h3, h4⟩ := h
  exact ⟨h1, h2, f, g, q, st, l, h3.more hm hn, h4⟩
theorem De.up {d : Dk} {P : List ByteArray → Prop} {m n m' n' : Nat} (h : De d P m n) (hm : m ≤ m') (hn : n ≤ n') : De d P m' n' :=
  ⟨h.1, h.2.1, fun k0 k1 k2 k3 => by obtain ⟨a, h1, h2⟩ := h.2.2 k0 k1 k2 k3; exact ⟨a, h1, h2.more hm hn⟩⟩
section
variable {d : Dk} {f : Int} {g q : Nat} {st : ByteArray} {l all : List ByteArray} {m n : Nat}
theorem ext_zero (x : ByteArray) : x.extract 0 0 = ⟨#[]⟩ := by
  apply ByteArray.ext
  simp
/-- Nothing late, the file that counts whole. -/
theorem De.still {Y : ByteArray} {o : Option Fd} (h : Has g q st l all m n) (hm : m ≤ 100) (hn : n ≤ 40) (hl : Lie d f (cont g q st l) ⟨#[]⟩ Y ⟨#[]⟩) (ht : Tells Y o) (ho : gO o < g) : De d (· = all) m n := by
  refine ⟨hl.made, hl.fits, fun k0 k1 k2 k3 => ⟨all, rfl, ?_⟩⟩
  obtain ⟨c1, c2, c3⟩ := hl.crash k0 k1 k2 k3
  rw [keep_none, keep_none] at c1
  exact ⟨c2, c3, f, g, q, st, l, h, _, _, o, c1, h.tells hm hn, ext_all _ _ (Nat.le_refl _), ht, ho⟩
theorem op_add_stop (h : Op d f g q st l all m n) (hm : m ≤ 100) (hn : n ≤ 40) (h0 : d.left = 0) (c : ByteArray) (hc : NoZ c) : appN d f (rec1 c) = 13 ∧ De (appD d f (rec1 c)) (· = all) m n := by
  obtain ⟨ha, hh, Y, o, hl, ht, ho⟩ := h
  obtain ⟨a1, a2⟩ := hl.app_stop ha h0 (rec1 c) (by rw [rec1_size]; have := hh.size hn; have := hc.1; omega)
  exact ⟨a1, De.still hh hm hn a2 ht ho⟩
theorem op_add_late (h : Op d f g q st l all m n) (hm : m ≤ 100) (hn : n + 1 ≤ 40) (h1 : d.left = 1) (c : ByteArray) (hc : NoZ c) : appN d f (rec1 c) = 0 ∧ synN (appD d f (rec1 c)) f = 13 ∧ De (synD (appD d f (rec1 c)) f) (fun a => a = all ∨ a = all ++ [c]) m (n + 1) := by
  obtain ⟨ha, hh, Y, o, hl, ht, ho⟩ := h
  obtain ⟨a1, a2, a3, a4⟩ := hl.app_go ha (by omega) (rec1 c) (by rw [rec1_size]; have := hh.size (by omega); have := hc.1; omega)
  obtain ⟨s1, s2⟩ := a2.syn_stop a3 (by rw [a4, h1]; rfl)
  refine ⟨a1, s1, s2.made, s2.fits, fun k0 k1 k2 k3 => ?_⟩
  obtain ⟨c1, c2, c3⟩ := s2.crash k0 k1 k2 k3
  rw [keep_none] at c1
  unfold keep1 at c1
  generalize kept (kp k0 k1 f) (rec1 c) = k at c1
  by_cases hk : k < c.size + 12
  · obtain ⟨t1, t2⟩ := tells_torn g q st l c k hh.ok hc.1 hk hh.g1 (by have := hh.gm; omega) (by have := hh.q_le; have := hh.nn; omega) (hh.few (by omega))
    exact ⟨all, .inl rfl, c2, c3, f, g, q, st, l, hh.more (Nat.le_refl _) (by omega), _, _, o, c1, t1, t2, ht, ho⟩
  · rw [torn_whole g q st l c k (by omega)] at c1
    have hh' := hh.add c hc
    exact ⟨all ++ [c], .inr rfl, c2, c3, f, g, q, st, l ++ [c], hh', _, _, o, c1, hh'.tells hm hn, ext_all _ _ (Nat.le_refl _), ht, ho⟩
theorem low_neg {n : Int} (h : n < 0) : low n = n := by unfold low; rw [if_neg (by omega)]
theorem low_ne {n : Int} (h : n ≠ 1) (h0 : n ≠ 0) : low n ≠ 0 := by unfold low; split <;> omega
theorem op_add_go (h : Op d f g q st l all m n) (hm : m ≤ 100) (hn : n + 1 ≤ 40) (h0 : d.left ≠ 0) (h1 : d.left ≠ 1) (c : ByteArray) (hc : NoZ c) : appN d f (rec1 c) = 0 ∧ synN (appD d f (rec1 c)) f = 0 ∧ Op (synD (appD d f (rec1 c)) f) f g q st (l ++ [c]) (all ++ [c]) m (n + 1) ∧ (d.left < 0 → (synD (appD d f (rec1 c)) f).left < 0) := by
  obtain ⟨ha, hh, Y, o, hl, ht, ho⟩ := h
  obtain ⟨a1, a2, a3, a4⟩ := hl.app_go ha h0 (rec1 c) (by rw [rec1_size]; have := hh.size (by omega); have := hc.1; omega)
  obtain ⟨s1, s2, s3, s4⟩ := a2.syn_go a3 (by rw [a4]; exact low_ne h1 h0)
  have e : cont g q st l ++ rec1 c = cont g q st (l ++ [c]) := cont_add g q st l c
  rw [e] at s2
  exact ⟨a1, s1, ⟨s3, hh.add c hc, Y, o, s2, ht, ho⟩, fun hlt => by rw [s4, a4, low_neg hlt, low_neg hlt]; exact hlt⟩
theorem lay_le (h : Has g q st l all m n) (hn : n ≤ 40) : (lay (g + 1) (q + l.length) (joinT all)).size ≤ 400000 := by
  have := h.turn.size hn
  rw [cont_nil] at this
  exact this
theorem op_turn_c (h : Op d f g q st l all m n) (hm : m ≤ 100) (hn : n ≤ 40) (h0 : d.left = 0) : cutN d (1 - f) 0 = 13 ∧ De (cutD d (1 - f) 0) (· = all) m n := by
  obtain ⟨ha, hh, Y, o, hl, ht, ho⟩ := h
  obtain ⟨a1, a2⟩ := hl.swap.cut_stop ha h0 0 (Nat.zero_le _)
  have a3 := a2.swap
  rw [show 1 - (1 - f) = f by omega] at a3
  exact ⟨a1, De.still hh hm hn a3 ht ho⟩
theorem op_turn_a (h : Op d f g q st l all m n) (hm : m ≤ 100) (hn : n ≤ 40) (h1 : d.left = 1) : cutN d (1 - f) 0 = 0 ∧ appN (cutD d (1 - f) 0) (1 - f) (lay (g + 1) (q + l.length) (joinT all)) = 13 ∧ De (appD (cutD d (1 - f) 0) (1 - f) (lay (g + 1) (q + l.length) (joinT all))) (· = all) m n := by
  obtain ⟨ha, hh, Y, o, hl, ht, ho⟩ := h
  obtain ⟨a1, a2, a3, a4⟩ := hl.swap.cut_go ha (by omega) 0 (Nat.zero_le _)
  rw [ext_zero] at a2
  have hz := lay_le hh hn
  obtain ⟨b1, b2⟩ := Lie.app_stop a2 a3 (by show (cutD d (1 - f) ((0 : Nat) : Int)).left = 0; rw [a4, h1]; rfl) (lay (g + 1) (q + l.length) (joinT all)) (by rw [no_len]; omega)
  have b3 := b2.swap
  rw [show 1 - (1 - f) = f by omega] at b3
  exact ⟨a1, b1, De.still hh hm hn b3 tells_none (by show 0 < g; have := hh.g1; omega)⟩
theorem op_turn_y (h : Op d f g q st l all m n) (hm : m + 1 ≤ 100) (hn : n ≤ 40) (h2 : d.left = 2) : cutN d (1 - f) 0 = 0 ∧ appN (cutD d (1 - f) 0) (1 - f) (lay (g + 1) (q + l.length) (joinT all)) = 0 ∧ synN (appD (cutD d (1 - f) 0) (1 - f) (lay (g + 1) (q + l.length) (joinT all))) (1 - f) = 13 ∧ De (turnD d (1 - f) (lay (g + 1) (q + l.length) (joinT all))) (· = all) (m + 1) n := by
  obtain ⟨ha, hh, Y, o, hl, ht, ho⟩ := h
  obtain ⟨a1, a2, a3, a4⟩ := hl.swap.cut_go ha (by omega) 0 (Nat.zero_le _)
  rw [ext_zero] at a2
  have hz := lay_le hh hn
  have hv : low 2 = 1 := rfl
  obtain ⟨b1, b2, b3, b4⟩ := Lie.app_go a2 a3 (by show (cutD d (1 - f) ((0 : Nat) : Int)).left ≠ 0; rw [a4, h2, hv]; decide) (lay (g + 1) (q + l.length) (joinT all)) (by rw [no_len]; omega)
  obtain ⟨s1, s2⟩ := b2.syn_stop b3 (by rw [b4, a4, h2]; rfl)
  refine ⟨a1, b1, s1, s2.made, s2.fits, fun k0 k1 k2 k3 => ⟨all, rfl, ?_⟩⟩
  have s3 := s2.crash k0 k1 k2 k3
  obtain ⟨c1, c2, c3⟩ := s3
  have hf : 1 - (1 - f) = f := by omega
  rw [hf, keep_none] at c1
  unfold keep1 at c1
  rw [app_none'] at c1
  generalize kept (kp k0 k1 (1 - f)) (lay (g + 1) (q + l.length) (joinT all)) = k at c1
  have ht' := hh.turn
  by_cases hk : k < (lay (g + 1) (q + l.length) (joinT all)).size
  · have c4 := c1.swap
    rw [hf] at c4
    exact ⟨c2, c3, f, g, q, st, l, hh.more (by omega) (Nat.le_refl _), _, _, none, c4, hh.tells (by omega) hn, ext_all _ _ (Nat.le_refl _), tells_part _ _ _ k hk ht'.g1 (by have := ht'.gm; omega) (by have := hh.q_le; have := hh.nn; omega) (by have := ht'.few hn; omega), by show 0 < g; have := hh.g1; omega⟩
  · rw [ext_all _ _ (by omega)] at c1
    exact ⟨c2, c3, 1 - f, g + 1, q + l.length, joinT all, [], ht', cont (g + 1) (q + l.length) (joinT all) [], _, _, by rw [cont_nil]; exact c1, ht'.tells hm hn, ext_all _ _ (Nat.le_refl _), hh.tells (by omega) hn, by show g < g + 1; omega⟩
theorem op_turn_go (h : Op d f g q st l all m n) (hm : m + 1 ≤ 100) (hn : n ≤ 40) (h0 : d.left ≠ 0) (h1 : d.left ≠ 1) (h2 : d.left ≠ 2) : cutN d (1 - f) 0 = 0 ∧ appN (cutD d (1 - f) 0) (1 - f) (lay (g + 1) (q + l.length) (joinT all)) = 0 ∧ synN (appD (cutD d (1 - f) 0) (1 - f) (lay (g + 1) (q + l.length) (joinT all))) (1 - f) = 0 ∧
    Op (turnD d (1 - f) (lay (g + 1) (q + l.length) (joinT all))) (1 - f) (g + 1) (q + l.length) (joinT all) [] all (m + 1) n ∧ (d.left < 0 → (turnD d (1 - f) (lay (g + 1) (q + l.length) (joinT all))).left < 0) := by
  obtain ⟨ha, hh, Y, o, hl, ht, ho⟩ := h
  obtain ⟨a1, a2, a3, a4⟩ := hl.swap.cut_go ha h0 0 (Nat.zero_le _)
  rw [ext_zero] at a2
  have hz := lay_le hh hn
  have l1 : low d.left ≠ 0 := low_ne h1 h0
  have l2 : low d.left ≠ 1 := by unfold low; split <;> omega
  obtain ⟨b1, b2, b3, b4⟩ := Lie.app_go a2 a3 (by show (cutD d (1 - f) ((0 : Nat) : Int)).left ≠ 0; rw [a4]; exact l1) (lay (g + 1) (q + l.length) (joinT all)) (by rw [no_len]; omega)
  obtain ⟨s1, s2, s3, s4⟩ := b2.syn_go b3 (by rw [b4, a4]; exact low_ne l2 l1)
  rw [app_none'] at s2
  refine ⟨a1, b1, s1, ⟨s3, hh.turn, _, _, ?_, hh.tells (by omega) hn, by show g < g + 1; omega⟩, fun hlt => ?_⟩
  · rw [cont_nil]; exact s2
  · show (synD (appD (cutD d (1 - f) ((0 : Nat) : Int)) (1 - f) _) (1 - f)).left < 0
    rw [s4, b4, a4, low_neg hlt, low_neg hlt, low_neg hlt]
    exact hlt
end
end Go.Proofs.Ytejfdiiennnjjaa.J
namespace Go.Proofs.Ytejfdiiennnjjaa.J
open Go.RowKit Go.Proofs Go.Proofs.Ytejfdiiennnjjaa Go.Proofs.YtejfdiiennnjjaaW.PrintWords Go.Proofs.YtejfdiiennnjjaaW.PrintLast Go.Proofs.YtejfdiiennnjjaaW.PrintMore Go.Proofs.Ytejfdiiennnjjaa.D
set_option linter.unusedVariables false

theorem Ko.step {jb B : Nat} {j : Jn} {l : List ByteArray} {d : Dk} {w w' : World} (h : Ko jb j l d B w) (hz : w.heap.size ≤ w'.heap.size) (hm : ∀ k, ft jb j k → k < w.heap.size → w'.heap[k]? = w.heap[k]?) : Ko jb j l d B w' := by
  refine ⟨(hm jb (.inl rfl) (lt_of_block h.jn)).trans h.jn, (hm j.db (.inr (.inl rfl)) (lt_of_block h.dk)).trans h.dk, ?_, h.ne, h.bj, h.bd⟩
  have q := h.cm.oks (ok' := fun k => (k ≠ jb ∧ k ≠ j.db) ∧ j.cv.ownBlock = some k) (fun k hk ho _ => ⟨ho, hk⟩)
  exact (q.step hz (fun k hk hl => hm k (.inr (.inr hk.2)) hl)).oks (fun k _ ho _ => ho.1)
theorem Ko.low {jb B B' : Nat} {j : Jn} {l : List ByteArray} {d : Dk} {w : World} (h : Ko jb j l d B w) (hb : B' ≤ B) : Ko jb j l d B' w := ⟨h.jn, h.dk, h.cm.low hb, h.ne, Nat.le_trans hb h.bj, Nat.le_trans hb h.bd⟩
/-- Those blocks, and all that were made since. -/
def grow (F : Nat → Prop) (w w' : World) (k : Nat) : Prop := F k ∨ (w.heap.size ≤ k ∧ k < w'.heap.size)
theorem Tread.grow {F F' : Nat → Prop} {w w' : World} (h : Tread F w w' F') : Tread F w w' (J.grow F w w') := ⟨h.os, h.tape, h.output, h.size, h.block, fun k hk => by rcases hk with c | c; exact .inl c; exact .inr c.1⟩
/-- An open journal, its blocks among F; K: the disk has a limit only then. -/
def Js (jb db : Nat) (F : Nat → Prop) (all : List ByteArray) (m n : Nat) (K : Prop) (B : Nat) (w : World) : Prop :=
  (∀ k, F k → B ≤ k ∧ k < w.heap.size) ∧ F db ∧ ∃ j l d, ∃ g q : Nat, Ko jb j l d B w ∧ (∀ k, ft jb j k → F k) ∧ j.db = db ∧ j.dead = false ∧ j.gen = (g : Int) ∧ j.seq = (q : Int) ∧ Op d j.file g q j.state l all m n ∧ (d.left < 0 ∨ K)
section
variable {jb db B m n : Nat} {F : Nat → Prop} {all : List ByteArray} {K : Prop} {w w' : World}
theorem Js.step (h : Js jb db F all m n K B w) (hz : w.heap.size ≤ w'.heap.size) (hm : ∀ k, F k → k < w.heap.size → w'.heap[k]? = w.heap[k]?) : Js jb db F all m n K B w' := by
  obtain ⟨h1, h2, j, l, d, g, q, h3, h4, h5⟩ := h
  exact ⟨fun k hk => ⟨(h1 k hk).1, Nat.lt_of_lt_of_le (h1 k hk).2 hz⟩, h2, j, l, d, g, q, h3.step hz (fun k hk hl => hm k (h4 k hk) hl), h4, h5⟩
theorem Js.later (h : Js jb db F all m n K B w) (hb : Below w.heap.size w w') : Js jb db F all m n K B w' := h.step hb.size (fun k _ hl => hb.block k hl)
theorem Js.drewN (h : Js jb db F all m n K B w) (i : Nat) : Js jb db F all m n K B (w.drewN i) := h.step (Nat.le_refl _) (fun _ _ _ => rfl)
theorem Js.kk {K' : Prop} (h : Js jb db F all m n K B w) (hk : K → K') : Js jb db F all m n K' B w := by
  obtain ⟨h1, h2, j, l, d, g, q, h3, h4, h5, h6, h7, h8, h9, h10⟩ := h
  exact ⟨h1, h2, j, l, d, g, q, h3, h4, h5, h6, h7, h8, h9, h10.imp_right hk⟩
theorem Js.le (h : Js jb db F all m n K B w) : B ≤ w.heap.size := by
  have := h.1 db h.2.1
  omega
theorem Js.nn (h : Js jb db F all m n K B w) : all.length ≤ n ∧ ∀ s ∈ all, NoZ s := by
  obtain ⟨h1, h2, j, l, d, g, q, h3, h4, h5, h6, h7, h8, ⟨h9, h10, h11⟩, h12⟩ := h
  exact ⟨h10.nn, h10.nz⟩
theorem Js.more {m' n' : Nat} (h : Js jb db F all m n K B w) (hm : m ≤ m') (hn : n ≤ n') : Js jb db F all m' n' K B w := by
  obtain ⟨h1, h2, j, l, d, g, q, h3, h4, h5, h6, h7, h8, ⟨h9, h10, h11⟩, h12⟩ := h
  exact ⟨h1, h2, j, l, d, g, q, h3, h4, h5, h6, h7, h8, ⟨h9, h10.more hm hn, h11⟩, h12⟩
end
/-- What a disk that stopped leaves. -/
def Down (db : Nat) (F : Nat → Prop) (P : List ByteArray → Prop) (m n : Nat) (w w' : World) : Prop := ∃ d, D.Is db d w' ∧ De d P m n ∧ Tread F w w' (fun k => k = db)
/-- What Add and Turn answer, and leave. -/
def ActPost (jb db : Nat) (F : Nat → Prop) (all' : List ByteArray) (P : List ByteArray → Prop) (m n : Nat) (K : Prop) (B : Nat) (w : World) (e : Ending) (w' : World) : Prop :=
  (e = .returned (.int .i64 0) ∧ Js jb db (grow F w w') all' m n K B w' ∧ Tread F w w' (grow F w w')) ∨ (K ∧ e = .returned (.int .i64 13) ∧ Down db F P m n w w')
section
variable {jb db B m n : Nat} {F : Nat → Prop} {all : List ByteArray} {K : Prop} {w : World}
theorem fell_down {d : Dk} {j : Jn} {P : List ByteArray → Prop} {e : Ending} {w' : World} (h : Fell j.db d (ft jb j) w e w') (hF : ∀ k, ft jb j k → F k) (hd : De d P m n) : e = .returned (.int .i64 13) ∧ Down j.db F P m n w w' :=
  ⟨h.1, d, h.2.1, hd, h.2.2.less hF (fun _ h => h)⟩
theorem js_add (h : Js jb db F all m n K B w) (hm : m ≤ 100) (hn : n + 1 ≤ 40) (c : ByteArray) (hc : NoZ c) :
    Calls Try.prog 44 #[.pointer (some ⟨jb, 0, none⟩), .string c] w (ActPost jb db F (all ++ [c]) (fun a => a = all ∨ a = all ++ [c]) m (n + 1) K B w) := by
  obtain ⟨h1, h2, j, l, d, g, q, ko, hF, rfl, hd, hg, hq, hop, hK⟩ := h
  have hf : d.Fits := by obtain ⟨_, _, _, _, hl, _⟩ := hop; exact hl.fits
  have hll : l.length ≤ 1000000000 := by have := hop.2.1.q_le; have := hop.2.1.nn; omega
  by_cases e0 : d.left = 0
  · obtain ⟨a1, a2⟩ := op_add_stop hop hm (by omega) e0 c hc
    refine (ko_add_a jb B j l d c w ko hf hd hc.1 a1).mono fun e w' h => .inr ⟨hK.resolve_left (by omega), fell_down h hF ((a2.more fun a ha => .inl ha).up (Nat.le_refl _) (by omega))⟩
  · by_cases e1 : d.left = 1
    · obtain ⟨a1, a2, a3⟩ := op_add_late hop hm hn e1 c hc
      exact (ko_add_y jb B j l d c w ko hf hd hc.1 a1 a2).mono fun e w' h => .inr ⟨hK.resolve_left (by omega), fell_down h hF a3⟩
    · obtain ⟨a1, a2, a3, a4⟩ := op_add_go hop hm hn e0 e1 c hc
      refine (ko_add jb B j l d c w ko hf hd hc.1 hll a1 a2).mono fun e w' ⟨he, cv', J, T⟩ => .inl ⟨he, ⟨?_, .inl h2, _, _, _, g, q, J, ?_, rfl, hd, hg, hq, a3, hK.imp_left a4⟩, (T.less hF (fun _ h => h)).grow⟩
      · intro k hk
        rcases hk with c | c
        · exact ⟨(h1 k c).1, Nat.lt_of_lt_of_le (h1 k c).2 T.size⟩
        · exact ⟨by have := ko.le; omega, c.2⟩
      · intro k hk
        rcases T.foot k hk with c | c
        · exact .inl (hF k c)
        · exact .inr ⟨c, (J.lt k hk).2⟩
theorem js_turn (h : Js jb db F all m n K B w) (hm : m + 1 ≤ 100) (hn : n ≤ 40) :
    Calls Try.prog 45 #[.pointer (some ⟨jb, 0, none⟩), .string (joinT all)] w (ActPost jb db F all (fun a => a = all) (m + 1) n K B w) := by
  obtain ⟨h1, h2, j, l, d, g, q, ko, hF, rfl, hd, hg, hq, hop, hK⟩ := h
  obtain ⟨hal, hh, Y, o, hl, ht, ho⟩ := id hop
  have hf : d.Fits := hl.fits
  have h3 := hh.q_le
  have h4 := hh.nn
  have h5 := hh.gm
  have h6 := lay_le hh hn
  have h7 : (joinT all).size ≤ 1000000 := by have := joinT_size all hh.nz; have : 4097 * all.length ≤ 4097 * 40 := Nat.mul_le_mul_left _ (by omega); omega
  have down : ∀ (P : List ByteArray → Prop) (d' : Dk) (e : Ending) (w' : World), d.left = 0 ∨ d.left = 1 ∨ d.left = 2 → Fell j.db d' (ft jb j) w e w' → De d' P (m + 1) n → ActPost jb j.db F all P (m + 1) n K B w e w' := fun P d' e w' hlt h hd => .inr ⟨hK.resolve_left (by omega), fell_down h hF hd⟩
  have good : ∀ (e : Ending) (w' : World), Op (turnD d (1 - j.file) (lay (g + 1) (q + l.length) (joinT all))) (1 - j.file) (g + 1) (q + l.length) (joinT all) [] all (m + 1) n ∧ (d.left < 0 → (turnD d (1 - j.file) (lay (g + 1) (q + l.length) (joinT all))).left < 0) →
      (e = .returned (.int .i64 0) ∧ Ko jb (turnJ j l.length (joinT all)) [] (turnD d (1 - j.file) (lay (g + 1) (q + l.length) (joinT all))) B w' ∧ Tread (ft jb j) w w' (ft jb (turnJ j l.length (joinT all)))) → ActPost jb j.db F all (fun a => a = all) (m + 1) n K B w e w' := by
    intro e w' ⟨a3, a4⟩ ⟨he, J, T⟩
    refine .inl ⟨he, ⟨?_, .inl h2, _, _, _, g + 1, q + l.length, J, ?_, rfl, hd, by show j.gen + 1 = _; rw [hg]; push_cast; rfl, by show j.seq + (l.length : Int) = _; rw [hq]; push_cast; rfl, a3, hK.imp_left a4⟩, (T.less hF (fun _ h => h)).grow⟩
    · intro k hk
      rcases hk with c | c
      · exact ⟨(h1 k c).1, Nat.lt_of_lt_of_le (h1 k c).2 T.size⟩
      · exact ⟨by have := ko.le; omega, c.2⟩
    · intro k hk
      rcases T.foot k hk with c | c
      · exact .inl (hF k c)
      · exact .inr ⟨c, (J.lt k hk).2⟩
  have b1 : g ≤ 1000000000 := by omega
  have b2 : q ≤ 1000000000 := by omega
  have b3 : l.length ≤ 1000000000 := by omega
  have b4 : (lay (g + 1) (q + l.length) (joinT all)).size ≤ 1048576 := by omega
  by_cases e0 : d.left = 0
  · obtain ⟨a1, a2⟩ := op_turn_c hop (by omega) hn e0
    have a2 := a2.up (m' := m + 1) (by omega) (Nat.le_refl _)
    rcases hl.file with hfi | hfi
    · rw [hfi] at a1 a2
      exact (ko_turn_c0 jb B j l d g q _ w ko hf hd hfi hg hq b1 b2 b3 h7 b4 a1).mono fun e w' h => down _ _ e w' (by omega) h a2
    · rw [hfi] at a1 a2
      exact (ko_turn_c1 jb B j l d g q _ w ko hf hd hfi hg hq b1 b2 b3 h7 b4 a1).mono fun e w' h => down _ _ e w' (by omega) h a2
  · by_cases e1 : d.left = 1
    · obtain ⟨a1, a2, a3⟩ := op_turn_a hop (by omega) hn e1
      have a3 := a3.up (m' := m + 1) (by omega) (Nat.le_refl _)
      rcases hl.file with hfi | hfi
      · rw [hfi] at a1 a2 a3
        exact (ko_turn_a0 jb B j l d g q _ w ko hf hd hfi hg hq b1 b2 b3 h7 b4 a1 a2).mono fun e w' h => down _ _ e w' (by omega) h a3
      · rw [hfi] at a1 a2 a3
        exact (ko_turn_a1 jb B j l d g q _ w ko hf hd hfi hg hq b1 b2 b3 h7 b4 a1 a2).mono fun e w' h => down _ _ e w' (by omega) h a3
    · by_cases e2 : d.left = 2
      · obtain ⟨a1, a2, a3, a4⟩ := op_turn_y hop hm hn e2
        rcases hl.file with hfi | hfi
        · rw [hfi] at a1 a2 a3 a4
          exact (ko_turn_y0 jb B j l d g q _ w ko hf hd hfi hg hq b1 b2 b3 h7 b4 a1 a2 a3).mono fun e w' h => down _ _ e w' (by omega) h a4
        · rw [hfi] at a1 a2 a3 a4
          exact (ko_turn_y1 jb B j l d g q _ w ko hf hd hfi hg hq b1 b2 b3 h7 b4 a1 a2 a3).mono fun e w' h => down _ _ e w' (by omega) h a4
      · obtain ⟨a1, a2, a3, a4⟩ := op_turn_go hop hm hn e0 e1 e2
        rcases hl.file with hfi | hfi
        · rw [hfi] at a1 a2 a3 a4 good
          exact (ko_turn0 jb B j l d g q _ w ko hf hd hfi hg hq b1 b2 b3 h7 b4 a1 a2 a3).mono fun e w' h => good e w' a4 h
        · rw [hfi] at a1 a2 a3 a4 good
          exact (ko_turn1 jb B j l d g q _ w ko hf hd hfi hg hq b1 b2 b3 h7 b4 a1 a2 a3).mono fun e w' h => good e w' a4 h
end
/-! ### a crash, and Open -/
theorem de_crash {db m n : Nat} {d : Dk} {P : List ByteArray → Prop} {w : World} (h : D.Is db d w) (hd : De d P m n) (k0 k1 k2 k3 : Int) :
    Calls Try.prog 37 #[.pointer (some ⟨db, 0, none⟩), .agg #[.int .i64 k0, .int .i64 k1, .int .i64 k2, .int .i64 k3]] w fun e w' => e = .returned (.tuple #[]) ∧ ∃ a d', P a ∧ Cl d' a m n ∧ D.Turn db d' w w' := by
  obtain ⟨a, h1, h2⟩ := hd.2.2 k0 k1 k2 k3
  exact (D.Crash_made db d k0 k1 k2 k3 w h hd.2.1 hd.1).mono fun e w' ⟨he, T⟩ => ⟨he, a, _, h1, h2, T⟩
/-- Open, whichever file counts. -/
theorem open_any (b : Nat) (d d1 : Dk) (f : Int) (X Y : ByteArray) (F : Fd) (o : Option Fd) (w : World) (h : D.Is b d w) (ha : d.dead = false) (hl : Lie d f X ⟨#[]⟩ Y ⟨#[]⟩) (tx : Tells X (some F)) (ty : Tells Y o) (ho : gO o < F.g)
    (hc : (F.en = X.size ∧ d1 = d) ∨ (F.en < X.size ∧ cutN d f F.en = 0 ∧ d1 = cutD d f F.en)) (hy : synN d1 f = 0 ∨ synN d1 f = 13) :
    Calls Try.prog 50 #[.pointer (some ⟨b, 0, none⟩)] w (OpenPost b f F d1 w) := by
  have all1 : allOf d f = X := by unfold allOf; rw [hl.rdy ha, if_neg (by simp), hl.s, hl.l, none_app']
  have all2 : allOf d (1 - f) = Y := by unfold allOf; rw [hl.swap.rdy ha, if_neg (by simp), hl.s', hl.l', none_app']
  have r1 := hl.rdy ha
  have r2 := hl.swap.rdy ha
  rcases hl.file with rfl | rfl
  · cases o with
    | none => exact open0n b d d1 X Y F w h hl.fits r1 r2 all1 all2 tx ty hc hy
    | some G => exact open0G b d d1 X Y F G w h hl.fits r1 r2 all1 all2 tx ty (Nat.le_of_lt ho) hc hy
  · cases o with
    | none => exact open1n b d d1 Y X F w h hl.fits r2 r1 all2 all1 ty tx hc hy
    | some G => exact open1G b d d1 Y X F G w h hl.fits r2 r1 all2 all1 ty tx ho hc hy
section
variable {db m n : Nat} {all : List ByteArray} {d : Dk} {w : World}
theorem cl_open {K : Prop} (B : Nat) (hB : B ≤ db) (h : D.Is db d w) (hc : Cl d all m n) (hm : m ≤ 100) (hn : n ≤ 40) :
    Calls Try.prog 50 #[.pointer (some ⟨db, 0, none⟩)] w fun e w' => ∃ jb, e = .returned (.tuple #[.pointer (some ⟨jb, 0, none⟩), .int .i64 0]) ∧ Js jb db (grow (fun k => k = db) w w') all m n K B w' ∧ Tread (fun k => k = db) w w' (grow (fun k => k = db) w w') := by
  obtain ⟨ha, hlf, f, g, q, st, l, hh, X, Y, o, hl, tx, hx, ty, ho⟩ := hc
  have hw := lt_of_block h
  have fin : ∀ d1 (hs : synN d1 f = 0), Op (synD d1 f) f g q st l all m n ∧ (synD d1 f).left < 0 → ∀ e w', OpenPost db f ⟨g, q, st, l, (cont g q st l).size⟩ d1 w e w' →
      ∃ jb, e = .returned (.tuple #[.pointer (some ⟨jb, 0, none⟩), .int .i64 0]) ∧ Js jb db (grow (fun k => k = db) w w') all m n K B w' ∧ Tread (fun k => k = db) w w' (grow (fun k => k = db) w w') := by
    intro d1 hs ⟨h1, h2⟩ e w' hp
    rcases hp with ⟨_, jb, A, c, he, J, T, hft⟩ | ⟨h13, _⟩
    · refine ⟨jb, he, ⟨?_, .inl rfl, _, l, _, g, q, J.low hB, ?_, rfl, rfl, rfl, rfl, h1, .inl h2⟩, (Tread.of_turn (F := fun k => k = db) (F' := fun k => k = db) T rfl (fun _ h => .inl h)).grow⟩
      · intro k hk
        rcases hk with rfl | c'
        · exact ⟨hB, by have := T.size; omega⟩
        · exact ⟨by omega, c'.2⟩
      · intro k hk
        rcases hft k hk with c' | c'
        · exact .inl c'
        · exact .inr ⟨c', (J.lt k hk).2⟩
    · omega
  have hlen := hh.size hn
  by_cases he : (cont g q st l).size = X.size
  · have hX : X = cont g q st l := by rw [← hx, ext_all X _ (by omega)]
    obtain ⟨s1, s2, s3, s4⟩ := hl.syn_go ha (by omega)
    rw [none_app', hX] at s2
    exact (open_any db d d f X Y _ o w h ha hl tx ty ho (.inl ⟨he, rfl⟩) (.inl s1)).mono (fin d s1 ⟨⟨s3, hh, Y, o, s2, ty, ho⟩, by rw [s4, hlf]; decide⟩)
  · have hlt : (cont g q st l).size < X.size := by
      have : (X.extract 0 (cont g q st l).size).size = (cont g q st l).size := by rw [hx]
      rw [ByteArray.size_extract] at this
      omega
    obtain ⟨c1, c2, c3, c4⟩ := hl.cut_go ha (by omega) (cont g q st l).size (by omega)
    rw [hx] at c2
    obtain ⟨s1, s2, s3, s4⟩ := c2.syn_go c3 (by rw [c4, hlf]; decide)
    rw [none_app'] at s2
    exact (open_any db d _ f X Y _ o w h ha hl tx ty ho (.inr ⟨hlt, c1, rfl⟩) (.inl s1)).mono (fin _ s1 ⟨⟨s3, hh, Y, o, s2, ty, ho⟩, by rw [s4, c4, hlf]; decide⟩)
/-- Open where the disk can be changed once. -/
theorem cl_open1 (h : D.Is db { d with left := 1 } w) (hc : Cl d all m n) (hm : m ≤ 100) (hn : n ≤ 40) :
    Calls Try.prog 50 #[.pointer (some ⟨db, 0, none⟩)] w fun e w' => ∃ v1 v2 d', e = .returned (.tuple #[v1, v2]) ∧ De d' (fun a => a = all) m n ∧ D.Turn db d' w w' := by
  obtain ⟨ha, hlf, f, g, q, st, l, hh, X, Y, o, hl, tx, hx, ty, ho⟩ := hc
  have hl1 : Lie { d with left := 1 } f X ⟨#[]⟩ Y ⟨#[]⟩ := by
    obtain ⟨f0, f1, f2, f3, f4, f5⟩ := hl.fits
    exact ⟨hl.made, ⟨f0, f1, f2, f3, by show (1 : Int) ≤ _; omega, by show _ ≤ (1 : Int); omega⟩, hl.file, hl.s, hl.l, hl.s', hl.l'⟩
  have ha1 : ({ d with left := 1 } : Dk).dead = false := ha
  have hf1 : ({ d with left := 1 } : Dk).left = 1 := rfl
  generalize ({ d with left := 1 } : Dk) = d0 at *
  have fin : ∀ d1, De (synD d1 f) (fun a => a = all) m n → ∀ e w', OpenPost db f ⟨g, q, st, l, (cont g q st l).size⟩ d1 w e w' → ∃ v1 v2 d', e = .returned (.tuple #[v1, v2]) ∧ De d' (fun a => a = all) m n ∧ D.Turn db d' w w' := by
    intro d1 h1 e w' hp
    rcases hp with ⟨_, jb, A, c, he, J, T, hft⟩ | ⟨h13, he, T⟩
    · exact ⟨_, _, _, he, h1, T⟩
    · exact ⟨_, _, _, he, h1, T⟩
  by_cases he : (cont g q st l).size = X.size
  · have hX : X = cont g q st l := by rw [← hx, ext_all X _ (by omega)]
    obtain ⟨s1, s2, s3, s4⟩ := hl1.syn_go ha1 (by omega)
    rw [none_app', hX] at s2
    exact (open_any db d0 d0 f X Y _ o w h ha1 hl1 tx ty ho (.inl ⟨he, rfl⟩) (.inl s1)).mono (fin d0 (De.still hh hm hn s2 ty ho))
  · have hlt : (cont g q st l).size < X.size := by
      have : (X.extract 0 (cont g q st l).size).size = (cont g q st l).size := by rw [hx]
      rw [ByteArray.size_extract] at this
      omega
    obtain ⟨c1, c2, c3, c4⟩ := hl1.cut_go ha1 (by omega) (cont g q st l).size (by omega)
    rw [hx] at c2
    obtain ⟨s1, s2⟩ := c2.syn_stop c3 (by rw [c4, hf1]; rfl)
    exact (open_any db d0 _ f X Y _ o w h ha1 hl1 tx ty ho (.inr ⟨hlt, c1, rfl⟩) (.inr s1)).mono (fin _ (De.still hh hm hn s2 ty ho))
end
end Go.Proofs.Ytejfdiiennnjjaa.J
namespace Go.Proofs.Ytejfdiiennnjjaa.J
open Go.RowKit Go.Proofs Go.Proofs.Ytejfdiiennnjjaa Go.Proofs.YtejfdiiennnjjaaW.PrintWords Go.Proofs.YtejfdiiennnjjaaW.PrintLast Go.Proofs.YtejfdiiennnjjaaW.PrintMore Go.Proofs.Ytejfdiiennnjjaa.D
set_option linter.unusedVariables false

theorem L_get (s : ByteArray) (k : Nat) (h : k < s.size) : (Facts.L s)[k]? = some s[k] := by
  unfold Facts.L
  simp [h]
  rfl
/-- Has a command a byte 0? -/
def zeroB (s : ByteArray) : Bool := (Facts.L s).any (· == 0)
set_option maxRecDepth 100000 in
set_option maxHeartbeats 4000000 in
theorem zero_any (s : ByteArray) (w : World) (hs : s.size ≤ 140737488355328) : Calls Try.prog 53 #[.string s] w fun e w' => e = .returned (.bool (zeroB s)) ∧ w' = w := by
  go_enter Try.func53, Try.ntmps53
  go_wp2
  go_loop [3] (fun i => ∃ k : Nat, k ≤ s.size ∧ i = .int .i64 (k : Int) ∧ ∀ c ∈ (Facts.L s).take k, c ≠ 0) (fun i => s.size - (intOf i).toNat)
  case atStart => exact ⟨0, Nat.zero_le _, rfl, by simp⟩
  case round =>
    obtain ⟨k, hk, rfl, hz⟩ := hrel
    have HZ := Lib.hid hz
    clear hz
    by_cases hlt : k < s.size
    · by_cases hc : s[k] = 0
      · have h1 : ((s[k].toNat : Int) == 0) = true := by rw [hc]; rfl
        have HC := Lib.hid hc
        clear hc
        go_wp2
        go_ret
        refine ⟨?_, rfl⟩
        have : zeroB s = true := by
          unfold zeroB
          rw [List.any_eq_true]
          exact ⟨s[k], List.mem_of_getElem? (L_get s k hlt), by rw [HC.out]; rfl⟩
        rw [this]
        rfl
      · have h1 : ((s[k].toNat : Int) == 0) = false := by
          rw [beq_eq_false_iff_ne]
          intro e
          exact hc (UInt8.toNat_inj.1 (by simpa using e))
        have HN : Hid (∀ c ∈ (Facts.L s).take (k + 1), c ≠ 0) := Lib.hid (by
          intro c h
          rw [List.take_add_one, L_get s k hlt] at h
          rcases List.mem_append.1 h with h | h
          · exact HZ.out c h
          · simp at h; rw [h]; exact hc)
        clear hc
        go_wp2
        go_round
        case rel => exact ⟨k + 1, by omega, by go_num, HN.out⟩
        case measure => simp [intOf]; omega
    · go_wp2
      go_ret
      refine ⟨?_, rfl⟩
      have : zeroB s = false := by
        unfold zeroB
        rw [List.any_eq_false]
        intro c h
        have := HZ.out c (by rw [List.take_of_length_le (by rw [Facts.L_len]; omega)]; exact h)
        simpa using this
      rw [this]
      rfl
theorem joinT_succ (l : List ByteArray) (k : Nat) (h : k < l.length) : joinT (l.take (k + 1)) = joinT (l.take k) ++ l[k] ++ ⟨#[0]⟩ := by
  apply Facts.L_ext
  unfold joinT
  rw [Facts.L_append, Facts.L_append, Facts.L_S, Facts.L_S, List.take_succ_eq_append_getElem h, List.flatMap_append]
  simp [Facts.L]
set_option maxRecDepth 100000 in
set_option maxHeartbeats 4000000 in
theorem joined_any (A : Option Addr) (c : Nat) (l : List ByteArray) (w : World) (hC : Kd.C Kd.string w A l.length l) (hl : l.length ≤ 40) (hz : ∀ s ∈ l, NoZ s) : Calls Try.prog 54 #[.slice A l.length c] w fun e w' => e = .returned (.string (joinT l)) ∧ w' = w := by
  go_enter Try.func54, Try.ntmps54
  go_wp2
  go_loop [3, 4] (fun s i => ∃ k : Nat, k ≤ l.length ∧ i = .int .i64 (k : Int) ∧ s = .string (joinT (l.take k))) (fun _ i => l.length - (intOf i).toNat)
  case atStart => exact ⟨0, Nat.zero_le _, rfl, rfl⟩
  case round =>
    obtain ⟨k, hk, rfl, rfl⟩ := hrel
    by_cases hlt : k < l.length
    · obtain ⟨ad, hA, hc⟩ := Kd.at_string hC (k : Int) (by omega) (by omega)
      have e : rdOf ByteArray.empty l (k : Int) = l[k] := by
        unfold rdOf
        rw [Int.toNat_natCast, List.getD_eq_getElem?_getD, List.getElem?_eq_getElem hlt, Option.getD_some]
      rw [e, Int.toNat_natCast] at hc
      have s1 := joinT_size (l.take k) (fun s hs => hz s (List.mem_of_mem_take hs))
      have s2 := (hz _ (List.getElem_mem hlt)).1
      have s3 : (l.take k).length ≤ 40 := by rw [List.length_take]; omega
      have s4 : 4097 * (l.take k).length ≤ 4097 * 40 := Nat.mul_le_mul_left _ s3
      have h1 : ¬ 9223372036854775807 < (joinT (l.take k)).size + l[k].size := by omega
      have h2 : ¬ 9223372036854775807 < (joinT (l.take k)).size + l[k].size + 1 := by omega
      have HJ := Lib.hid (joinT_succ l k hlt)
      subst hA
      clear e s3 s4
      have HCC := Lib.hid hC
      have HZZ := Lib.hid hz
      clear hC hz
      go_wp2
      go_round
      case rel => exact ⟨k + 1, by omega, by go_num, by rw [HJ.out]⟩
      case measure => simp [intOf]; omega
    · obtain rfl : k = l.length := by omega
      go_wp2
      go_ret
      exact ⟨rfl, rfl⟩

theorem joinT_cons (s : ByteArray) (l : List ByteArray) : Facts.L (joinT (s :: l)) = Facts.L s ++ 0 :: Facts.L (joinT l) := by
  unfold joinT
  rw [Facts.L_S, Facts.L_S, List.flatMap_cons, List.append_assoc]
  rfl
theorem joinT_front (s : ByteArray) (l : List ByteArray) : s.size < (joinT (s :: l)).size ∧ (joinT (s :: l)).extract 0 s.size = s ∧ (joinT (s :: l)).extract (s.size + 1) (joinT (s :: l)).size = joinT l := by
  have h := joinT_cons s l
  have hz : (joinT (s :: l)).size = s.size + 1 + (joinT l).size := by
    rw [← Facts.L_len, h, List.length_append, List.length_cons, Facts.L_len, Facts.L_len]; omega
  refine ⟨by omega, ?_, ?_⟩
  · apply Facts.L_ext
    rw [L_take, h, List.take_left' (Facts.L_len s)]
  · apply Facts.L_ext
    rw [Facts.L_extract, List.take_of_length_le (by rw [Facts.L_len]; omega), h]
    rw [show s.size + 1 = (Facts.L s).length + 1 by rw [Facts.L_len], List.drop_append]
    simp
theorem joinT_byte (s : ByteArray) (l : List ByteArray) (hs : NoZ s) (k : Nat) (hk : k ≤ s.size) (hlt : k < (joinT (s :: l)).size) : ((joinT (s :: l))[k] = 0 ↔ k = s.size) := by
  have h1 := L_get (joinT (s :: l)) k hlt
  generalize (joinT (s :: l))[k] = x at *
  rw [joinT_cons] at h1
  by_cases e : k = s.size
  · rw [List.getElem?_append_right (by rw [Facts.L_len]; omega), Facts.L_len, e] at h1
    simp at h1
    exact ⟨fun _ => e, fun _ => h1.symm⟩
  · rw [List.getElem?_append_left (by rw [Facts.L_len]; omega)] at h1
    have := hs.2 _ (List.mem_of_getElem? h1)
    exact ⟨fun c => absurd c this, fun c => absurd c e⟩
set_option maxRecDepth 100000 in
set_option maxHeartbeats 8000000 in
theorem told_any {jb B : Nat} {j : Jn} {l : List ByteArray} {d : Dk} {w : World} (h : Ko jb j l d B w) (a0 : List ByteArray) (hq : j.seq = (a0.length : Nat)) (hst : j.state = joinT a0) (ha : a0.length ≤ 40) (hl : l.length ≤ 40) (hz : ∀ s ∈ a0, NoZ s) :
    Calls Try.prog 55 #[.pointer (some ⟨jb, 0, none⟩)] w fun e w' => ∃ v, e = .returned v ∧ Kd.R Kd.string 9 w' w.heap.size (fun _ => True) v (a0 ++ l) ∧ Below w.heap.size w w' := by
  have S := ko_state h
  rw [hst] at S
  have Q := ko_seq h (by omega) (by omega) (by omega)
  rw [hq] at Q
  go_enter Try.func55, Try.ntmps55
  go_wp2_with fail
  refine S.mono ?_; rintro e w1 ⟨rfl, rfl⟩
  clear S
  go_wp2_with fail
  refine Q.mono ?_; rintro e w2 ⟨rfl, n2, rfl⟩
  clear Q
  have h2 := h.drewN n2
  go_wp2_with fail
  refine (ko_cmds h2 (by omega)).mono ?_; rintro e w3 ⟨v3, rfl, r3, b3⟩
  obtain ⟨A3, c3, rfl⟩ := Kd.R_slice r3
  have h3 := h2.later b3
  have B3 : Below w1.heap.size w1 w3 := (⟨rfl, rfl, rfl, Nat.le_refl _, fun _ _ => rfl⟩ : Below w1.heap.size w1 (w1.drewN n2)).trans b3
  clear r3 h2 b3
  have HW := Lib.hid (fun k hk => (h.lt k hk).2 : ∀ k, ft jb j k → k < w1.heap.size)
  have HZ := Lib.hid hz
  have HST := Lib.hid hst
  clear hz hst hq h
  go_wp2_with fail
  go_loopw [3, 4, 6] (fun lv s i wr => ∃ k : Nat, k ≤ a0.length ∧ i = .int .i64 (k : Int) ∧ s = .string (joinT (a0.drop k)) ∧ Kd.R Kd.string 9 wr w1.heap.size (fun _ => True) lv (a0.take k) ∧ Ko jb j l d B wr ∧ Below w1.heap.size w1 wr) (fun lv s i _ => a0.length - (intOf i).toNat)
  case atStart => exact ⟨0, Nat.zero_le _, rfl, rfl, Kd.R_nil _ _ _ _ _, h3, B3⟩
  case round =>
    obtain ⟨k, hk, rfl, rfl, hR, hKo, hB⟩ := hrel
    obtain ⟨wo, rfl⟩ : ∃ wo : World, wo = wr := ⟨_, rfl⟩
    obtain ⟨A5, c5, rfl⟩ := Kd.R_slice hR
    by_cases hlt : k < a0.length
    · have hd : a0.drop k = a0[k] :: a0.drop (k + 1) := List.drop_eq_getElem_cons hlt
      have hp := HZ.out _ (List.getElem_mem hlt)
      obtain ⟨f1, f2, f3⟩ := joinT_front a0[k] (a0.drop (k + 1))
      have fb : ∀ x, x ≤ a0[k].size → ∀ hxl : x < (joinT (a0[k] :: a0.drop (k + 1))).size, ((joinT (a0[k] :: a0.drop (k + 1)))[x]'hxl = 0 ↔ x = a0[k].size) := fun x hx hxl => joinT_byte a0[k] (a0.drop (k + 1)) hp x hx hxl
      have fz : (joinT (a0.drop k)).size ≤ 4097 * (a0.drop k).length := joinT_size _ (fun s hs => HZ.out s (List.mem_of_mem_drop hs))
      rw [← hd] at f1 f2 f3 fb
      have fz2 : 4097 * (a0.drop k).length ≤ 4097 * 40 := Nat.mul_le_mul_left _ (by rw [List.length_drop]; omega)
      have ht : a0.take (k + 1) = a0.take k ++ [a0[k]] := List.take_succ_eq_append_getElem hlt
      have htl : (a0.take k).length = k := by rw [List.length_take]; omega
      have hp2 := hp.1
      obtain ⟨s, hs⟩ : ∃ s, s = joinT (a0.drop k) := ⟨_, rfl⟩
      rw [← hs] at f1 f2 f3 fb fz ⊢
      obtain ⟨p, hp0⟩ : ∃ p, p = a0[k] := ⟨_, rfl⟩
      rw [← hp0] at f1 f2 f3 fb ht hp2
      have HF := Lib.hid fb
      have H2 := Lib.hid f2
      have H3 := Lib.hid f3
      have HT := Lib.hid ht
      have HL := Lib.hid htl
      have HR := Lib.hid hR
      have HO := Lib.hid hKo
      have HB := Lib.hid hB
      have HS3 := Lib.hid h3
      have HB3 := Lib.hid B3
      clear hd hp fb f2 f3 ht hs hp0 htl hR hKo hB h3 B3
      go_wp2_with fail
      go_loop [7] (fun kv => ∃ x : Nat, x ≤ p.size ∧ kv = .int .i64 (x : Int)) (fun kv => s.size - (intOf kv).toNat)
      case atStart => exact ⟨0, Nat.zero_le _, rfl⟩
      case round =>
        obtain ⟨x, hx, rfl⟩ := hrel
        have hxs : x < s.size := by omega
        by_cases hxp : x < p.size
        · have hb := HF.out x hx hxs
          have hb1 : ((s[x].toNat : Int) != 0) = true := by
            rw [bne_iff_ne]
            intro e
            have : s[x] = 0 := UInt8.toNat_inj.1 (by simpa using e)
            have := hb.1 this
            omega
          clear hb
          go_wp2_with fail
          go_round
          case rel => exact ⟨x + 1, by omega, by go_num⟩
          case measure => simp [intOf]; omega
        · obtain rfl : x = p.size := by omega
          have hb := (HF.out p.size hx hxs).2 rfl
          have hb1 : ((s[p.size].toNat : Int) != 0) = false := by rw [hb]; rfl
          have he : ((p.size : Int) == (s.size : Int)) = false := by rw [beq_eq_false_iff_ne]; omega
          clear hb
          go_wp2_with (first
            | ((with_reducible refine gate_builtin (b := .append) (xs := #[.tmp 37, .tmp 41]) rfl ?_); at_builtin
               refine Kd.R_append Kd.string (w0 := w1) w1.heap.size rfl (.tmp 37) (.tmp 41) 32 9 (.string ⟨#[]⟩) 16 rfl Try.underlying32 info9 rfl (by decide) (by omega) (.slice A5 (a0.take k).length c5) (a0.take k) (s.extract 0 p.size) [.string (s.extract 0 p.size)] (fun _ => True) (fun _ => False) rfl rfl ?aP (fun _ hk => hk.elim) ?aF ?aO ?aB ?aS ?aL ?_
               (case aP => exact rfl)
               (case aB => exact HB.out)
               (case aF => exact (fun _ _ => trivial))
               (case aO => exact HR.out)
               (case aS => exact HB.out.size)
               (case aL => have := HL.out; omega)
               intro v6 w6 ho hb6 hg hat
               rw [H2.out, ← HT.out] at ho
               have N1 := Lib.hid ho
               have N2 := Lib.hid hb6
               have N3 := Lib.hid hg
               clear ho hb6 hg hat))
          go_roundw
          case rel => exact ⟨k + 1, by omega, by go_num, by rw [H3.out], N1.out, HO.out.step N3.out.size (fun i hi _ => (N2.out.block i (HW.out i hi)).trans (HB.out.block i (HW.out i hi)).symm), N2.out⟩
          case measure => simp [intOf]; omega
    · obtain rfl : k = a0.length := by omega
      have hR' := hR
      rw [List.take_length] at hR'
      have HR := Lib.hid hR'
      have HB := Lib.hid hB
      have C := ko_cmds hKo (by omega)
      clear hR hR' hB h3 B3 hKo
      go_wp2_with fail
      refine C.mono ?_; rintro e w5 ⟨v5, rfl, r5, b5⟩
      obtain ⟨A6, c6, hv6, _, hC6⟩ := Kd.R_reads r5
      subst hv6
      have HR2 := Lib.hid (Kd.R_below HR.out b5)
      have HB2 := Lib.hid (HB.out.trans (b5.mono HB.out.size))
      have HC6 := Lib.hid hC6
      clear C r5 b5 hC6
      go_wp2_with (first
        | ((with_reducible refine gate_builtin (b := .append) (xs := #[.tmp 47, .tmp 49]) rfl ?_); at_builtin
           refine Kd.R_append_rows Kd.string (w0 := w1) w1.heap.size rfl (.tmp 47) (.tmp 49) 32 9 (.string ⟨#[]⟩) 16 rfl Try.underlying32 info9 rfl (by decide) (by omega) (.slice A5 a0.length c5) a0 l _ _ _ (fun _ => True) (fun _ => False) rfl rfl ?bO ?bR (fun _ _ h => h) (fun _ h => h.elim) ?bF ?bB ?bS ?bL ?_
           (case bR => exact HC6.out)
           (case bB => exact HB2.out)
           (case bF => exact fun _ _ => trivial)
           (case bO => exact HR2.out)
           (case bS => exact HB2.out.size)
           (case bL => omega)
           intro v1 w7 ho hb hg hat
           clear hg hat))
      go_ret
      exact ⟨_, rfl, ho, hb⟩
end Go.Proofs.Ytejfdiiennnjjaa.J
