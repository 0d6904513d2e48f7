/- A slice of texts in some place of a block of the call's own, with room behind it or none: what is read of it, and what an append leaves; which blocks an act may write. A journal whose commands lie anywhere in a row; its Add, where the disk takes it and where it does not. -/
import Derived.Test.YtejfdiiennnjjaaZf
namespace Go.Proofs.Ytejfdiiennnjjaa.J
open Go.RowKit Go.Proofs Go.Proofs.Ytejfdiiennnjjaa Go.Proofs.YtejfdiiennnjjaaW.PrintWords Go.Proofs.YtejfdiiennnjjaaW.PrintLast Go.Proofs.YtejfdiiennnjjaaW.PrintMore Go.Proofs.Ytejfdiiennnjjaa.D
set_option linter.unusedVariables false

/-- Texts in a row that begins anywhere in a block. -/
structure Tl (w : World) (B : Nat) (ok : Nat → Prop) (v : Value) (l : List ByteArray) : Prop where
  own : ∀ k, v.ownBlock = some k → ok k ∧ B ≤ k ∧ k < w.heap.size
  ex : ∃ A c, v = .slice A l.length c ∧ l.length ≤ c ∧ ((c = 0 ∧ (A = none → c = 0)) ∨ ∃ g off cur, A = some ⟨g, off, none⟩ ∧ w.heap[g]? = some (.cells cur 9 (0, 0)) ∧ off + c ≤ cur.size ∧ ∀ k (h : k < l.length), cur[off + k]? = some (.string l[k]))
theorem Tl.nil (w : World) (B : Nat) (ok : Nat → Prop) : Tl w B ok (.slice none 0 0) [] := ⟨fun k hk => by simp [Value.ownBlock] at hk, none, 0, rfl, Nat.le_refl _, .inl ⟨rfl, fun _ => rfl⟩⟩
section
variable {w w1 : World} {B : Nat} {ok ok' : Nat → Prop} {v : Value} {l : List ByteArray}
theorem Tl.step (h : Tl w B ok v l) (hz : w.heap.size ≤ w1.heap.size) (hm : ∀ k, ok k → k < w.heap.size → w1.heap[k]? = w.heap[k]?) : Tl w1 B ok v l := by
  obtain ⟨h1, A, c, rfl, h2, h3⟩ := h
  refine ⟨fun k hk => ⟨(h1 k hk).1, (h1 k hk).2.1, by have := (h1 k hk).2.2; omega⟩, A, c, rfl, h2, ?_⟩
  rcases h3 with h3 | ⟨g, off, cur, rfl, hg, h4, h5⟩
  · exact .inl h3
  · have := h1 g rfl
    exact .inr ⟨g, off, cur, rfl, (hm g this.1 this.2.2).trans hg, h4, h5⟩
theorem Tl.oks (h : Tl w B ok v l) (ho : ∀ k, v.ownBlock = some k → ok k → k < w.heap.size → ok' k) : Tl w B ok' v l :=
  ⟨fun k hk => ⟨ho k hk (h.own k hk).1 (h.own k hk).2.2, (h.own k hk).2⟩, h.ex⟩
theorem Tl.low {B' : Nat} (h : Tl w B ok v l) (hb : B' ≤ B) : Tl w B' ok v l := ⟨fun k hk => ⟨(h.own k hk).1, Nat.le_trans hb (h.own k hk).2.1, (h.own k hk).2.2⟩, h.ex⟩
theorem Tl.below (h : Tl w B ok v l) (hb : Below w.heap.size w w1) : Tl w1 B ok v l := h.step hb.size (fun k _ hk => hb.block k hk)
theorem Tl.drewN (h : Tl w B ok v l) (n : Nat) : Tl (w.drewN n) B ok v l := h.step (Nat.le_refl _) (fun _ _ _ => rfl)
theorem add_at (g off j : Nat) : (⟨g, off, none⟩ : Addr).add j = ⟨g, off + j, none⟩ := by unfold Addr.add; split <;> simp_all
theorem Tl.reads (h : Tl w B ok v l) (hl : l.length ≤ 1000000000) : ∃ A c, v = .slice A l.length c ∧ l.length ≤ c ∧ Kd.C Kd.string w A l.length l := by
  obtain ⟨h1, A, c, rfl, h2, h3⟩ := h
  refine ⟨A, c, rfl, h2, rfl, by omega, fun hn => ?_⟩
  rcases h3 with ⟨h3, _⟩ | ⟨g, off, cur, rfl, hg, h4, h5⟩
  · omega
  · refine ⟨_, rfl, fun j p hj => ⟨[.string p], rfl, rfl, fun i u hu => ?_⟩⟩
    obtain ⟨hjl, rfl⟩ := List.getElem?_eq_some_iff.1 hj
    obtain rfl : i = 0 := by
      have := (List.getElem?_eq_some_iff.1 hu).1
      simpa using this
    obtain rfl : Value.string l[j] = u := by simpa using hu
    rw [add_at, show j * Kd.string.sz + 0 = j from Nat.mul_one j]
    have := h5 j hjl
    simp [World.cell?, hg, this]
/-- What was made by the kit's own append. -/
theorem Tl.of_own {n : Nat} (h : w.ownsRow B 9 1 v n (l.map Value.string)) (hok : ∀ k, v.ownBlock = some k → ok k) : Tl w B ok v l := by
  have hlt := h.lt
  obtain ⟨hlen, h⟩ := h
  have hn : l.length = n := by simpa using hlen
  subst hn
  refine ⟨fun k hk => ⟨hok k hk, hlt k hk⟩, ?_⟩
  rcases h with ⟨rfl, h0⟩ | ⟨g, cap, cur, rfl, hB, hg, hc, hm, hs, ht⟩
  · exact ⟨none, 0, by rw [h0], by omega, .inl ⟨rfl, fun _ => rfl⟩⟩
  · refine ⟨_, cap, rfl, hc, .inr ⟨g, 0, cur, rfl, hg, by omega, fun k hk => ?_⟩⟩
    have e : (cur.toList.take (l.length * 1))[k]? = (l.map Value.string)[k]? := by rw [ht]
    rw [List.getElem?_take, if_pos (by omega), List.getElem?_map, List.getElem?_eq_getElem hk] at e
    rw [Nat.zero_add]
    simpa using e
theorem Tl.of_R (h : Kd.R Kd.string 9 w B ok v l) : Tl w B ok v l := .of_own (Kd.own_of_R h) h.1
end
section
variable {P : Program} {ops : Array Oper} {o : Oper} {a : Act} {Q : Exit → Act → World → Prop} {rest : List Oper}
theorem Tl.append {W : World} (hgd : o.guard = none) (s x : Operand) (t : TypeId)
    (ho : o.op = .call { callee := .builtin .append, args := #[s, x], argTypes := #[t, t] })
    (ht : P.underlying t = some (.slice 9)) (hinfo : (P.info? 9).map (fun i => (i.zero, i.size, i.bytes)) = some (some (.string ⟨#[]⟩), 1, 16))
    (B : Nat) (v : Value) (xs : List ByteArray) (p : ByteArray) (ok : Nat → Prop) (hs : a.eval s = v) (hx : a.eval x = .slice (some ⟨W.heap.size, 0, none⟩) 1 1)
    (hfresh : ∀ k, W.heap.size ≤ k → ok k) (HO : Tl W B ok v xs) (hB : B ≤ W.heap.size) (hl : xs.length ≤ 1000000000)
    (h : ∀ v1 w1, Tl w1 B ok v1 (xs ++ [p]) → W.grownBy w1 v.ownBlock → (v1.ownBlock = v.ownBlock ∨ ∃ b, v1.ownBlock = some b ∧ W.heap.size ≤ b) → wpList P ops Q rest (a.put o.dst v1) w1) :
    wpList P ops Q (o :: rest) a (W.alloc (.cells #[.string p] 9)) := by
  obtain ⟨i0, hi, hz⟩ := Option.map_eq_some_iff.1 hinfo
  simp only [Prod.mk.injEq] at hz
  obtain ⟨z1, z2, z3⟩ := hz
  obtain ⟨h1, A, c, rfl, h2, h3⟩ := HO
  have hnew : (W.alloc (.cells #[.string p] 9)).heap.size = W.heap.size + 1 := by simp
  have hnews : ∀ j u, [Value.string p][j]? = some u → (W.alloc (.cells #[.string p] 9)).cell? ((⟨W.heap.size, 0, none⟩ : Addr).add j) = some u := by
    intro j u hu
    obtain rfl : j = 0 := by
      have := (List.getElem?_eq_some_iff.1 hu).1
      simpa using this
    obtain rfl : Value.string p = u := by simpa using hu
    rw [add_at]
    have q := heap_alloc_new W (.cells #[.string p] 9)
    unfold World.cell?
    simp only [Nat.zero_add]
    rw [q]
    rfl
  have hone : ∀ u ∈ [Value.string p], u.oneCell' = true := by intro u hu; obtain rfl := List.mem_singleton.1 hu; rfl
  have hg0 : W.grownBy (W.alloc (.cells #[.string p] 9)) none := World.grownBy_alloc _ _ _
  have grow : ∀ v' w', w'.ownsRow (W.alloc (.cells #[.string p] 9)).heap.size 9 1 v' (xs.length + 1) (xs.map Value.string ++ [Value.string p]) → (W.alloc (.cells #[.string p] 9)).grownBy w' none → Tl w' B ok v' (xs ++ [p]) ∧ W.grownBy w' (Value.slice A xs.length c).ownBlock ∧ (v'.ownBlock = (Value.slice A xs.length c).ownBlock ∨ ∃ b, v'.ownBlock = some b ∧ W.heap.size ≤ b) := by
    intro v' w' hown hg
    have hown' : w'.ownsRow (W.alloc (.cells #[.string p] 9)).heap.size 9 1 v' (xs.length + 1) ((xs ++ [p]).map Value.string) := by rw [List.map_append]; exact hown
    refine ⟨(Tl.of_own hown' (fun k hk => hfresh k (by have := (hown.lt k hk).1; omega))).low (by omega), ?_, ?_⟩
    · exact ⟨hg.os, hg.tape, hg.output, by have := hg.size; omega, fun k hk _ => (hg.block k (by omega) (by simp)).trans (Below.heap_alloc _ _ _ hk)⟩
    · rcases hown.2 with ⟨rfl, h0⟩ | ⟨g, cap, cur, rfl, hB, _⟩
      · omega
      · exact .inr ⟨g, rfl, by omega⟩
  rcases h3 with ⟨h3, h4⟩ | ⟨g, off, cur, rfl, hg, h4, h5⟩
  · subst h3
    have h0 : xs = [] := List.eq_nil_of_length_eq_zero (by omega)
    subst h0
    refine wpList_append_grows (W.alloc (.cells #[.string p] 9)) hgd s x t ho 9 i0 _ 1 16 ht hi z1 z2 z3 rfl (by omega) A 0 0 [] hs (fun _ => ⟨rfl, rfl⟩) rfl (fun _ _ j u hj => by simp at hj) ⟨W.heap.size, 0, none⟩ 1 1 [.string p] hx rfl hnews hone (by omega) (by decide) (by decide) ?_
    intro v' w' hown hg
    obtain ⟨a1, a2, a3⟩ := grow v' w' hown hg
    exact h v' w' a1 a2 a3
  · have hgl := lt_of_block hg
    have hg' : (W.alloc (.cells #[.string p] 9)).heap[g]? = some (.cells cur 9 (0, 0)) := (Below.heap_alloc _ _ _ hgl).trans hg
    refine wpList_append_arg (W.alloc (.cells #[.string p] 9)) hgd s x t ho 9 i0 _ 1 16 ht hi z1 z2 z3 rfl (by omega) g off xs.length c (xs.map Value.string) hs (by simp) ?_ ⟨W.heap.size, 0, none⟩ 1 1 [.string p] hx rfl hnews hone ?_ (by unfold maxLen; omega) (by omega) ?_ ?_
    · intro j u hj
      rw [List.getElem?_map] at hj
      obtain ⟨y, hy, rfl⟩ := Option.map_eq_some_iff.1 hj
      obtain ⟨hjl, rfl⟩ := List.getElem?_eq_some_iff.1 hy
      have := h5 j hjl
      simp [World.cell?, hg', this]
    · intro hr j hj
      obtain rfl : j = 0 := by simpa using hj
      have hb : off + xs.length < cur.size := by omega
      have hb' : off + xs.length * 1 + 0 < cur.size := by omega
      refine ⟨?_, by simp [World.frozen?, hg']⟩
      simp [World.cell?, hg', Array.getElem?_eq_getElem hb]
    · intro hr
      have e : (W.alloc (.cells #[.string p] 9)).setCells g (off + xs.length * 1) [.string p] = (W.alloc (.cells #[.string p] 9)).setCell ⟨g, off + xs.length, none⟩ (.string p) := by rw [Nat.mul_one]; rfl
      rw [e]
      have hb : off + xs.length < cur.size := by omega
      have hblk : ((W.alloc (.cells #[.string p] 9)).setCell ⟨g, off + xs.length, none⟩ (.string p)).heap[g]? = some (.cells (cur.setIfInBounds (off + xs.length) (.string p)) 9 (0, 0)) := by
        have hlt := lt_of_block hg'
        have h' : (W.alloc (.cells #[.string p] 9)).heap[g] = .cells cur 9 (0, 0) := by simpa [Array.getElem?_eq_getElem hlt] using hg'
        show ((W.alloc (.cells #[.string p] 9)).heap.modify g _)[g]? = _
        rw [Array.getElem?_eq_getElem (by simpa using hlt), Array.getElem_modify_self, h']
        rfl
      have hsz : ((W.alloc (.cells #[.string p] 9)).setCell ⟨g, off + xs.length, none⟩ (.string p)).heap.size = W.heap.size + 1 := by simp [World.setCell]
      refine h _ _ ⟨fun k hk => ?_, some ⟨g, off, none⟩, c, by simp, by simp; omega, .inr ⟨g, off, _, rfl, hblk, by simpa using h4, fun k hk => ?_⟩⟩ ?_ (.inl rfl)
      · have q := h1 k hk
        exact ⟨q.1, q.2.1, by omega⟩
      · by_cases hkl : k < xs.length
        · rw [Array.getElem?_setIfInBounds_ne (by omega), h5 k hkl, List.getElem_append_left hkl]
        · obtain rfl : k = xs.length := by simp at hk; omega
          rw [Array.getElem?_setIfInBounds_self_of_lt hb, List.getElem_append_right (Nat.le_refl _)]
          simp
      · refine ⟨rfl, rfl, rfl, by omega, fun k hk hne => ?_⟩
        have hkg : k ≠ g := fun e => hne (by rw [e]; rfl)
        rw [Below.heap_setCell _ _ _ _ hkg]
        exact Below.heap_alloc _ _ _ hk
    · intro hr v' w' hown hg2
      obtain ⟨a1, a2, a3⟩ := grow v' w' hown hg2
      exact h v' w' a1 a2 a3
end
/-- An act that may write the blocks of F, and leaves what it speaks of in the blocks of F'. -/
structure Tread (F : Nat → Prop) (w w' : World) (F' : Nat → Prop) : Prop where
  os : w'.os = w.os
  tape : w'.tape = w.tape
  output : w'.output = w.output
  size : w.heap.size ≤ w'.heap.size
  block : ∀ k, k < w.heap.size → ¬ F k → w'.heap[k]? = w.heap[k]?
  foot : ∀ k, F' k → F k ∨ w.heap.size ≤ k
section
variable {F F' F'' G : Nat → Prop} {w w1 w2 : World} {B : Nat}
theorem Tread.refl (F : Nat → Prop) (w : World) : Tread F w w F := ⟨rfl, rfl, rfl, Nat.le_refl _, fun _ _ _ => rfl, fun _ h => .inl h⟩
theorem Tread.trans (h : Tread F w w1 F') (h' : Tread F' w1 w2 F'') : Tread F w w2 F'' :=
  ⟨h'.os.trans h.os, h'.tape.trans h.tape, h'.output.trans h.output, Nat.le_trans h.size h'.size,
    fun k hk hF => (h'.block k (Nat.lt_of_lt_of_le hk h.size) (fun c => by rcases h.foot k c with c | c; exact hF c; omega)).trans (h.block k hk hF),
    fun k hk => by
      rcases h'.foot k hk with c | c
      · exact h.foot k c
      · exact .inr (Nat.le_trans h.size c)⟩
theorem Tread.toBelow (h : Tread F w w1 F') (hB : ∀ k, F k → B ≤ k) (hs : B ≤ w.heap.size) : Below B w w1 := ⟨h.os, h.tape, h.output, h.size, fun k hk => h.block k (by omega) (fun c => by have := hB k c; omega)⟩
theorem Tread.of_below (h : Below w.heap.size w w1) (hF : ∀ k, F' k → F k ∨ w.heap.size ≤ k) : Tread F w w1 F' := ⟨h.os, h.tape, h.output, h.size, fun k hk _ => h.block k hk, hF⟩
theorem Tread.of_turn {b : Nat} {d : Dk} (h : D.Turn b d w w1) (hF : F b) (hF' : ∀ k, F' k → F k ∨ w.heap.size ≤ k) : Tread F w w1 F' := by
  have q := h.below 0 (Nat.zero_le _)
  exact ⟨q.os, q.tape, q.output, h.size, fun k hk hk' => h.others k hk (fun e => hk' (e ▸ hF)), hF'⟩
theorem Tread.less (h : Tread F w w1 F') (hF : ∀ k, F k → G k) (hF' : ∀ k, F'' k → F' k) : Tread G w w1 F'' :=
  ⟨h.os, h.tape, h.output, h.size, fun k hk hG => h.block k hk (fun c => hG (hF k c)), fun k hk => by
    rcases h.foot k (hF' k hk) with c | c
    · exact .inl (hF k c)
    · exact .inr c⟩
/-- A row outside stays. -/
theorem Tread.row {ok ok' : Nat → Prop} {v : Value} {l : List ByteArray} (h : Tread F w w1 F') (r : Tl w B ok v l) (ho : ∀ k, ok k → ¬ F k) (ho' : ∀ k, k < w.heap.size → ok k → ok' k) : Tl w1 B ok' v l :=
  (r.step h.size (fun k hk hl => h.block k hl (ho k hk))).oks (fun k hk hok _ => ho' k (r.own k hk).2.2 hok)
end
end Go.Proofs.Ytejfdiiennnjjaa.J
namespace Go.Proofs.Ytejfdiiennnjjaa.J
open Go.RowKit Go.Proofs Go.Proofs.Ytejfdiiennnjjaa Go.Proofs.YtejfdiiennnjjaaW.PrintWords Go.Proofs.YtejfdiiennnjjaaW.PrintLast Go.Proofs.YtejfdiiennnjjaaW.PrintMore Go.Proofs.Ytejfdiiennnjjaa.D
set_option linter.unusedVariables false

/-- A journal with its commands, and its disk. -/
structure Ko (jb : Nat) (j : Jn) (l : List ByteArray) (d : Dk) (B : Nat) (w : World) : Prop where
  jn : Is jb j w
  dk : D.Is j.db d w
  cm : Tl w B (fun k => k ≠ jb ∧ k ≠ j.db) j.cv l
  ne : jb ≠ j.db
  bj : B ≤ jb
  bd : B ≤ j.db
/-- Its blocks. -/
def ft (jb : Nat) (j : Jn) (k : Nat) : Prop := k = jb ∨ k = j.db ∨ j.cv.ownBlock = some k
theorem Jo.ko {jb B : Nat} {j : Jn} {l : List ByteArray} {d : Dk} {w : World} (h : Jo jb j l d B w) : Ko jb j l d B w := ⟨h.jn, h.dk, Tl.of_R h.cm, h.ne, h.bj, h.bd⟩
section
variable {jb B : Nat} {j : Jn} {l : List ByteArray} {d d' : Dk} {w w' : World}
theorem Ko.lt (h : Ko jb j l d B w) : ∀ k, ft jb j k → B ≤ k ∧ k < w.heap.size := by
  rintro k (rfl | rfl | e)
  · exact ⟨h.bj, lt_of_block h.jn⟩
  · exact ⟨h.bd, lt_of_block h.dk⟩
  · exact (h.cm.own k e).2
theorem Ko.le (h : Ko jb j l d B w) : B ≤ w.heap.size := by have := lt_of_block h.jn; have := h.bj; omega
theorem Ko.turn (h : Ko jb j l d B w) (T : D.Turn j.db d' w w') : Ko jb j l d' B w' :=
  ⟨(T.others jb (lt_of_block h.jn) h.ne).trans h.jn, T.is, h.cm.step T.size (fun k hk hl => T.others k hl hk.2), h.ne, h.bj, h.bd⟩
theorem Ko.later (h : Ko jb j l d B w) (hb : Below w.heap.size w w') : Ko jb j l d B w' :=
  ⟨(hb.block _ (lt_of_block h.jn)).trans h.jn, (hb.block _ (lt_of_block h.dk)).trans h.dk, h.cm.below hb, h.ne, h.bj, h.bd⟩
theorem Ko.drewN (h : Ko jb j l d B w) (n : Nat) : Ko jb j l d B (w.drewN n) := ⟨h.jn, h.dk, h.cm.drewN n, h.ne, h.bj, h.bd⟩
theorem Ko.put {j' : Jn} {k : Nat} {v : Value} (h : Ko jb j l d B w) (r : Is jb j' (w.setCell ⟨jb, k, none⟩ v)) (e : j'.db = j.db) (hc : j'.cv = j.cv) : Ko jb j' l d B (w.setCell ⟨jb, k, none⟩ v) := by
  have g : ∀ c, c ≠ jb → (w.setCell ⟨jb, k, none⟩ v).heap[c]? = w.heap[c]? := fun c hc => Below.heap_setCell _ _ _ _ hc
  refine ⟨r, ?_, ?_, ?_, h.bj, ?_⟩
  · rw [e]; exact (g _ (fun x => h.ne x.symm)).trans h.dk
  · rw [e, hc]; exact h.cm.step (by simp [World.setCell]) (fun k hk hl => g k hk.1)
  · rw [e]; exact h.ne
  · rw [e]; exact h.bd
theorem Ko.clear (h : Ko jb j l d B w) : Ko jb { j with cv := .slice none 0 0 } [] d B (w.setCell ⟨jb, 5, none⟩ (.slice none 0 0)) := by
  have g : ∀ c, c ≠ jb → (w.setCell ⟨jb, 5, none⟩ (.slice none 0 0)).heap[c]? = w.heap[c]? := fun c hc => Below.heap_setCell _ _ _ _ hc
  exact ⟨h.jn.p5 _, (g _ (fun x => h.ne x.symm)).trans h.dk, Tl.nil _ _ _, h.ne, h.bj, h.bd⟩
theorem Ko.grow {l' : List ByteArray} {W w1 : World} {v1 : Value} (h : Ko jb j l d B W) (hg : W.grownBy w1 j.cv.ownBlock) (ho : Tl w1 B (fun k => k ≠ jb ∧ k ≠ j.db) v1 l') :
    Is jb j w1 ∧ Ko jb { j with cv := v1 } l' d B (w1.setCell ⟨jb, 5, none⟩ v1) := by
  have hne : ∀ k, (k = jb ∨ k = j.db) → some k ≠ j.cv.ownBlock := fun k hk e => by
    have := (h.cm.own k e.symm).1
    rcases hk with rfl | rfl
    · exact this.1 rfl
    · exact this.2 rfl
  have i1 : Is jb j w1 := (hg.block jb (lt_of_block h.jn) (hne _ (Or.inl rfl))).trans h.jn
  have d1 : D.Is j.db d w1 := (hg.block j.db (lt_of_block h.dk) (hne _ (Or.inr rfl))).trans h.dk
  have g : ∀ c, c ≠ jb → (w1.setCell ⟨jb, 5, none⟩ v1).heap[c]? = w1.heap[c]? := fun c hc => Below.heap_setCell _ _ _ _ hc
  exact ⟨i1, i1.p5 v1, (g _ (fun x => h.ne x.symm)).trans d1, ho.step (by simp [World.setCell]) (fun k hk _ => g k hk.1), h.ne, h.bj, h.bd⟩
end
section
variable {F F' : Nat → Prop} {w w1 w2 : World} {jb : Nat} {j : Jn}
theorem Tread.put (h : Tread F w w1 F') {p : Addr} (hp : F' p.block) (u : Value) : Tread F w (w1.setCell p u) F' :=
  h.trans ⟨rfl, rfl, rfl, by simp [World.setCell], fun k hk hF => Below.heap_setCell _ _ _ _ (fun e => hF (e ▸ hp)), fun _ h => .inl h⟩
theorem Tread.drew_of (h : Tread F w.drew w1 F') : Tread F w w1 F' := ⟨h.os, h.tape, h.output, h.size, h.block, h.foot⟩
theorem Tread.drewN (h : Tread F w w1 F') (n : Nat) : Tread F w (w1.drewN n) F' := ⟨h.os, h.tape, h.output, h.size, h.block, h.foot⟩
theorem Tread.turn {d : Dk} (h : Tread F w w1 (ft jb j)) (T : D.Turn j.db d w1 w2) : Tread F w w2 (ft jb j) := h.trans (Tread.of_turn T (.inr (.inl rfl)) (fun _ h => .inl h))
theorem Tread.later (h : Tread F w w1 F') (b : Below w1.heap.size w1 w2) : Tread F w w2 F' := h.trans (Tread.of_below b (fun _ h => .inl h))
end
theorem Tread.grown {jb : Nat} {j : Jn} {F : Nat → Prop} {w w1 w2 : World} {v1 : Value} (h : Tread F w w1 (ft jb j)) (hg : w1.grownBy w2 j.cv.ownBlock) (hat : v1.ownBlock = j.cv.ownBlock ∨ ∃ b, v1.ownBlock = some b ∧ w1.heap.size ≤ b) : Tread F w w2 (ft jb { j with cv := v1 }) :=
  h.trans ⟨hg.os, hg.tape, hg.output, hg.size, fun k hk hF => hg.block k hk (fun e => hF (.inr (.inr e.symm))), by
    rintro k (rfl | rfl | e)
    · exact .inl (.inl rfl)
    · exact .inl (.inr (.inl rfl))
    · rcases hat with c | ⟨b, c, hb⟩
      · exact .inl (.inr (.inr (c ▸ e)))
      · have : b = k := Option.some.inj (c.symm.trans e)
        exact .inr (by omega)⟩
set_option maxRecDepth 100000 in
set_option maxHeartbeats 4000000 in
theorem Cmds_any (jb : Nat) (j : Jn) (l : List ByteArray) (A : Option Addr) (c : Nat) (w : World) (h : Is jb j w) (hv : j.cv = .slice A l.length c) (hC : Kd.C Kd.string w A l.length l) (hl : l.length ≤ 1000000000) :
    Calls Try.prog 47 #[.pointer (some ⟨jb, 0, none⟩)] w fun e w' => ∃ v, e = .returned v ∧ Kd.R Kd.string 9 w' w.heap.size (fun _ => True) v l ∧ Below w.heap.size w w' := by
  have c5 := h.c5
  rw [hv] at c5
  clear h
  go_enter Try.func47, Try.ntmps47
  go_wp2_with (first
    | ((with_reducible refine gate_builtin (b := .append) (xs := #[.const (.slice none 0 0), .tmp 8]) rfl ?_); at_builtin
       refine Kd.R_append_rows Kd.string (w0 := w) w.heap.size rfl (.const (.slice none 0 0)) (.tmp 8) 32 9 (.string ⟨#[]⟩) 16 rfl Try.underlying32 info9 rfl (by decide) (by omega) (.slice none 0 0) [] l _ _ _ (fun _ => True) (fun _ => False) rfl rfl ?aO ?aR (fun _ _ h => h) (fun _ h => h.elim) ?aF ?aB ?aS ?aL ?_
       (case aR => exact hC)
       (case aB => exact Below.refl _ _)
       (case aF => exact fun _ _ => trivial)
       (case aO => exact Kd.R_nil _ _ _ _ _)
       (case aS => exact Nat.le_refl _)
       (case aL => simp; omega)
       intro v1 w1 ho hb hg hat
       rw [List.nil_append] at ho
       clear hg hat))
  go_ret
  exact ⟨_, rfl, ho, hb⟩
theorem ko_cmds {jb B : Nat} {j : Jn} {l : List ByteArray} {d : Dk} {w : World} (h : Ko jb j l d B w) (hl : l.length ≤ 1000000000) :
    Calls Try.prog 47 #[.pointer (some ⟨jb, 0, none⟩)] w fun e w' => ∃ v, e = .returned v ∧ Kd.R Kd.string 9 w' w.heap.size (fun _ => True) v l ∧ Below w.heap.size w w' := by
  obtain ⟨A, c, hv, _, hC⟩ := h.cm.reads hl
  exact Cmds_any jb j l A c w h.jn hv hC hl
theorem ko_seq {jb B : Nat} {j : Jn} {l : List ByteArray} {d : Dk} {w : World} (h : Ko jb j l d B w) (h0 : 0 ≤ j.seq) (h1 : j.seq ≤ 1000000000) (hl : l.length ≤ 1000000000) :
    Calls Try.prog 48 #[.pointer (some ⟨jb, 0, none⟩)] w fun e w' => e = .returned (.int .i64 (j.seq + l.length)) ∧ ∃ q, w' = w.drewN q := by
  obtain ⟨A, c, hv, _⟩ := h.cm.reads hl
  exact Seq_any jb j A l.length c w h.jn hv (by omega) (by omega) (by omega)
theorem ko_state {jb B : Nat} {j : Jn} {l : List ByteArray} {d : Dk} {w : World} (h : Ko jb j l d B w) : Calls Try.prog 46 #[.pointer (some ⟨jb, 0, none⟩)] w fun e w' => e = .returned (.string j.state) ∧ w' = w := State_any jb j w h.jn
set_option maxRecDepth 100000 in
set_option maxHeartbeats 8000000 in
theorem ko_add (jb B : Nat) (j : Jn) (l : List ByteArray) (d : Dk) (cmd : ByteArray) (w : World) (h : Ko jb j l d B w) (hf : d.Fits) (hj : j.dead = false) (hs : cmd.size ≤ 4096) (hl : l.length ≤ 1000000000)
    (a0 : appN d j.file (rec1 cmd) = 0) (y0 : synN (appD d j.file (rec1 cmd)) j.file = 0) :
    Calls Try.prog 44 #[.pointer (some ⟨jb, 0, none⟩), .string cmd] w fun e w' => e = .returned (.int .i64 0) ∧ ∃ cv', Ko jb { j with cv := cv' } (l ++ [cmd]) (synD (appD d j.file (rec1 cmd)) j.file) B w' ∧ Tread (ft jb j) w w' (ft jb { j with cv := cv' }) := by
  have R := ready_any jb j w h.jn
  unfold jrdy at R
  rw [hj, if_neg (by simp)] at R
  go_enter Try.func44, Try.ntmps44
  go_wp2_with fail
  refine R.mono ?_; rintro e w1 ⟨rfl, rfl⟩
  clear R
  go_wp2_with fail
  refine (Put_rec cmd hs _).mono ?_; rintro e w2 ⟨rfl, b2⟩
  have h2 := h.later b2
  have B2 := (Tread.refl (ft jb j) w1).later b2
  clear b2 h
  have c0 := h2.jn.c0
  have c1 := h2.jn.c1
  go_wp2_with fail
  go_region_with (go_at_call 32; refine (D.Append_any j.db d j.file (rec1 cmd) _ (show D.Is j.db d w2.drew from h2.dk) hf).mono ?_; rintro e w3 ⟨rfl, T⟩; rw [a0])
  all_goals
    have h3 := h2.turn (turn_undrew T)
    have B3 := B2.turn (turn_undrew T)
    clear T c0 c1 h2 B2
    have c0 := h3.jn.c0
    have c1 := h3.jn.c1
    go_wp2_with fail
    go_region_with (go_at_call 36; refine (D.Sync_any j.db _ j.file _ (show D.Is j.db _ w3.drew from h3.dk) (appD_fits hf _ _)).mono ?_; rintro e w4 ⟨rfl, T⟩; rw [y0])
  all_goals
    have h4 := h3.turn (turn_undrew T)
    have B4 := B3.turn (turn_undrew T)
    clear T c0 c1 h3 B3
    have c5 := h4.jn.c5
    have hlj := lt_of_block h4.jn
    have hld := lt_of_block h4.dk
    have hle := h4.le
    obtain ⟨A0, cp0, hv, hcp⟩ := h4.cm.ex
    clear hcp
    rw [hv] at c5
    go_wp2_with (first
      | ((with_reducible refine gate_builtin (b := .append) (xs := #[.tmp 56, .tmp 58]) rfl ?_); at_builtin
         refine Tl.append (W := w4) rfl (.tmp 56) (.tmp 58) 32 rfl Try.underlying32 info9 B (.slice A0 l.length cp0) l cmd (fun k => k ≠ jb ∧ k ≠ j.db) rfl rfl ?aF ?aO hle hl ?_
         (case aF => exact (fun k hk => ⟨by omega, by omega⟩))
         (case aO => have := h4.cm; rw [hv] at this; exact this)
         intro v1 w5 ho hg hat
         obtain ⟨A1, cp1, hv1, _⟩ := ho.ex
         rw [← hv] at hg hat
         obtain ⟨i5, J5⟩ := h4.grow hg ho
         have B5 := B4.grown hg hat
         subst hv1
         rw [show (l ++ [cmd]).length = l.length + 1 by simp] at J5 B5
         have f5 := i5.f5
         have c5' := i5.c5
         clear hg hat ho))
    go_ret
    exact ⟨rfl, _, J5, B5.put (.inl rfl) _⟩
/-- What is left of a journal's disk where an act failed. -/
def Fell (db : Nat) (d : Dk) (F : Nat → Prop) (w : World) (e : Ending) (w' : World) : Prop := e = .returned (.int .i64 13) ∧ D.Is db d w' ∧ Tread F w w' (fun k => k = db)
set_option maxRecDepth 100000 in
set_option maxHeartbeats 8000000 in
theorem ko_add_a (jb B : Nat) (j : Jn) (l : List ByteArray) (d : Dk) (cmd : ByteArray) (w : World) (h : Ko jb j l d B w) (hf : d.Fits) (hj : j.dead = false) (hs : cmd.size ≤ 4096)
    (a0 : appN d j.file (rec1 cmd) = 13) :
    Calls Try.prog 44 #[.pointer (some ⟨jb, 0, none⟩), .string cmd] w (Fell j.db (appD d j.file (rec1 cmd)) (ft jb j) w) := by
  have R := ready_any jb j w h.jn
  unfold jrdy at R
  rw [hj, if_neg (by simp)] at R
  go_enter Try.func44, Try.ntmps44
  go_wp2_with fail
  refine R.mono ?_; rintro e w1 ⟨rfl, rfl⟩
  clear R
  go_wp2_with fail
  refine (Put_rec cmd hs _).mono ?_; rintro e w2 ⟨rfl, b2⟩
  have h2 := h.later b2
  have B2 := (Tread.refl (ft jb j) w1).later b2
  clear b2 h
  have c0 := h2.jn.c0
  have c1 := h2.jn.c1
  go_wp2_with fail
  go_region_with (go_at_call 32; refine (D.Append_any j.db d j.file (rec1 cmd) _ (show D.Is j.db d w2.drew from h2.dk) hf).mono ?_; rintro e w3 ⟨rfl, T⟩; rw [a0])
  all_goals
    have h3 := h2.turn (turn_undrew T)
    have B3 := B2.turn (turn_undrew T)
    clear T c0 c1 h2 B2
    have c6 := h3.jn.c6
    have f6 := h3.jn.f6
    go_wp2_with fail
    go_ret
    exact ⟨rfl, (Below.heap_setCell _ _ _ _ (fun x => h3.ne x.symm)).trans h3.dk, (B3.put (.inl rfl) _).less (fun _ h => h) (fun _ h => .inr (.inl h))⟩
set_option maxRecDepth 100000 in
set_option maxHeartbeats 8000000 in
theorem ko_add_y (jb B : Nat) (j : Jn) (l : List ByteArray) (d : Dk) (cmd : ByteArray) (w : World) (h : Ko jb j l d B w) (hf : d.Fits) (hj : j.dead = false) (hs : cmd.size ≤ 4096)
    (a0 : appN d j.file (rec1 cmd) = 0) (y0 : synN (appD d j.file (rec1 cmd)) j.file = 13) :
    Calls Try.prog 44 #[.pointer (some ⟨jb, 0, none⟩), .string cmd] w (Fell j.db (synD (appD d j.file (rec1 cmd)) j.file) (ft jb j) w) := by
  have R := ready_any jb j w h.jn
  unfold jrdy at R
  rw [hj, if_neg (by simp)] at R
  go_enter Try.func44, Try.ntmps44
  go_wp2_with fail
  refine R.mono ?_; rintro e w1 ⟨rfl, rfl⟩
  clear R
  go_wp2_with fail
  refine (Put_rec cmd hs _).mono ?_; rintro e w2 ⟨rfl, b2⟩
  have h2 := h.later b2
  have B2 := (Tread.refl (ft jb j) w1).later b2
  clear b2 h
  have c0 := h2.jn.c0
  have c1 := h2.jn.c1
  go_wp2_with fail
  go_region_with (go_at_call 32; refine (D.Append_any j.db d j.file (rec1 cmd) _ (show D.Is j.db d w2.drew from h2.dk) hf).mono ?_; rintro e w3 ⟨rfl, T⟩; rw [a0])
  all_goals
    have h3 := h2.turn (turn_undrew T)
    have B3 := B2.turn (turn_undrew T)
    clear T c0 c1 h2 B2
    have c0 := h3.jn.c0
    have c1 := h3.jn.c1
    go_wp2_with fail
    go_region_with (go_at_call 36; refine (D.Sync_any j.db _ j.file _ (show D.Is j.db _ w3.drew from h3.dk) (appD_fits hf _ _)).mono ?_; rintro e w4 ⟨rfl, T⟩; rw [y0])
  all_goals
    have h4 := h3.turn (turn_undrew T)
    have B4 := B3.turn (turn_undrew T)
    clear T c0 c1 h3 B3
    have c6 := h4.jn.c6
    have f6 := h4.jn.f6
    go_wp2_with fail
    go_ret
    exact ⟨rfl, (Below.heap_setCell _ _ _ _ (fun x => h4.ne x.symm)).trans h4.dk, (B4.put (.inl rfl) _).less (fun _ h => h) (fun _ h => .inr (.inl h))⟩
end Go.Proofs.Ytejfdiiennnjjaa.J
