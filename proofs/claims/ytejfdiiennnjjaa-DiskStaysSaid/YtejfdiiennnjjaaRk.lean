/- DiskStays: what its loops keep; plain facts. -/
import Derived.Test.YtejfdiiennnjjaaRj
namespace Go.Proofs.Ytejfdiiennnjjaa.R
open Go.RowKit Go.Proofs Go.Proofs.Ytejfdiiennnjjaa Go.Proofs.Ytejfdiiennnjjaa.D
set_option linter.unusedVariables false

theorem setL_dead' (d : Dk) (i : Int) (x : ByteArray) : (d.setL i x).dead = d.dead ∧ (d.setL i x).left = d.left := by unfold Dk.setL; (repeat' split) <;> exact ⟨rfl, rfl⟩
theorem setS_dead' (d : Dk) (i : Int) (x : ByteArray) : (d.setS i x).dead = d.dead ∧ (d.setS i x).left = d.left := by unfold Dk.setS; (repeat' split) <;> exact ⟨rfl, rfl⟩
theorem did_alive {d : Dk} {a : Ac} (h1 : d.dead = false) (h2 : d.left = -1) (hk : a.kind < 2) : (did d a).dead = false ∧ (did d a).left = -1 := by
  have hu : useD d = d := by unfold useD; rw [if_neg (by omega), if_neg (by omega)]
  unfold did
  by_cases k0 : a.kind = 0
  · rw [if_pos k0]
    unfold appD
    rw [hu, if_neg (show ¬ d.left = 0 by omega)]
    (repeat' split)
    · exact ⟨h1, h2⟩
    · exact ⟨h1, h2⟩
    · rw [(setL_dead' d a.file _).1, (setL_dead' d a.file _).2]; exact ⟨h1, h2⟩
  · rw [if_neg k0]
    by_cases k1 : a.kind = 1
    · rw [if_pos k1]
      unfold synD
      rw [hu, if_neg (show ¬ d.left = 0 by omega)]
      (repeat' split)
      · exact ⟨h1, h2⟩
      · rw [(setL_dead' _ a.file _).1, (setL_dead' _ a.file _).2, (setS_dead' d a.file _).1, (setS_dead' d a.file _).2]; exact ⟨h1, h2⟩
    · rw [if_neg k1, if_neg (by omega), if_neg (by omega)]
      exact ⟨rfl, rfl⟩
theorem alive_rdy {d : Dk} (hm : d.made = true) (hd : d.dead = false) (i : Int) (h0 : 0 ≤ i) (h4 : i < 4) : rdy d i = 0 := by
  unfold rdy
  rw [if_neg (by rw [hm]; simp), if_neg (by rw [hd]; simp), if_neg (by omega)]
theorem put_at {w : World} {p i : Nat} {X : Array Value} {ty : TypeId} {v : Value} (h : w.heap[p]? = some (.cells X ty (0, 0))) : (w.setCell ⟨p, i, none⟩ v).heap[p]? = some (.cells (X.setIfInBounds i v) ty (0, 0)) := by
  have hlt := lt_of_block h
  have h' : w.heap[p] = .cells X ty (0, 0) := by simpa [Array.getElem?_eq_getElem hlt] using h
  show (w.heap.modify p _)[p]? = _
  rw [Array.getElem?_eq_getElem (by simpa using hlt), Array.getElem_modify_self, h']
  rfl
/-- What the later loops keep: the two arrays that came in, the disk, and the two that are filled. -/
structure V (w0 : World) (K G : Array Value) (d : Dk) (p : Nat) (X Y : Array Value) (w : World) : Prop where
  kp : w.heap[w0.heap.size]? = some (.cells K 59 (0, 0))
  ag : w.heap[w0.heap.size + 1]? = some (.cells G 59 (0, 0))
  dk : D.Is (w0.heap.size + 2) d w
  al : w.heap[p]? = some (.cells X 75 (0, 0))
  sf : w.heap[p + 1]? = some (.cells Y 59 (0, 0))
  lt : w0.heap.size + 2 < p
  below : Below w0.heap.size w0 w
section
variable {w0 w w' : World} {K G X Y : Array Value} {d d' : Dk} {p : Nat}
theorem V.turn (h : V w0 K G d p X Y w) (T : D.Turn (w0.heap.size + 2) d' w w') : V w0 K G d' p X Y w' :=
  ⟨(T.others _ (lt_of_block h.kp) (by omega)).trans h.kp, (T.others _ (lt_of_block h.ag) (by omega)).trans h.ag, T.is, (T.others _ (lt_of_block h.al) (by have := h.lt; omega)).trans h.al, (T.others _ (lt_of_block h.sf) (by have := h.lt; omega)).trans h.sf, h.lt, h.below.trans (T.below _ (by omega))⟩
theorem V.putX (h : V w0 K G d p X Y w) (i : Nat) (v : Value) : V w0 K G d p (X.setIfInBounds i v) Y (w.setCell ⟨p, i, none⟩ v) := by
  have hl := h.lt
  have g : ∀ c, c ≠ p → (w.setCell ⟨p, i, none⟩ v).heap[c]? = w.heap[c]? := fun c hc => Below.heap_setCell _ _ _ _ hc
  exact ⟨(g _ (by omega)).trans h.kp, (g _ (by omega)).trans h.ag, (g _ (by omega)).trans h.dk, put_at h.al, (g _ (by omega)).trans h.sf, hl, h.below.setCell (show w0.heap.size ≤ p by omega) _⟩
theorem V.putY (h : V w0 K G d p X Y w) (i : Nat) (v : Value) : V w0 K G d p X (Y.setIfInBounds i v) (w.setCell ⟨p + 1, i, none⟩ v) := by
  have hl := h.lt
  have g : ∀ c, c ≠ p + 1 → (w.setCell ⟨p + 1, i, none⟩ v).heap[c]? = w.heap[c]? := fun c hc => Below.heap_setCell _ _ _ _ hc
  exact ⟨(g _ (by omega)).trans h.kp, (g _ (by omega)).trans h.ag, (g _ (by omega)).trans h.dk, (g _ (by omega)).trans h.al, put_at h.sf, hl, h.below.setCell (show w0.heap.size ≤ p + 1 by omega) _⟩
theorem V.alloc (h : V w0 K G d p X Y w) (o : Obj) : V w0 K G d p X Y (w.alloc o) := by
  have g : ∀ c x, w.heap[c]? = some x → (w.alloc o).heap[c]? = some x := fun c x e => (Below.heap_alloc _ _ _ (lt_of_block e)).trans e
  exact ⟨g _ _ h.kp, g _ _ h.ag, g _ _ h.dk, g _ _ h.al, g _ _ h.sf, h.lt, h.below.alloc (by have := lt_of_block h.kp; omega) _⟩
end
/-- The same, and a third array. -/
structure V2 (w0 : World) (K G : Array Value) (d : Dk) (p : Nat) (X Y : Array Value) (q : Nat) (Z : Array Value) (w : World) : Prop where
  v : V w0 K G d p X Y w
  lf : w.heap[q]? = some (.cells Z 75 (0, 0))
  lq : p + 1 < q
section
variable {w0 w w' : World} {K G X Y Z : Array Value} {d d' : Dk} {p q : Nat}
theorem V2.turn (h : V2 w0 K G d p X Y q Z w) (T : D.Turn (w0.heap.size + 2) d' w w') : V2 w0 K G d' p X Y q Z w' :=
  ⟨h.v.turn T, (T.others _ (lt_of_block h.lf) (by have := h.lq; have := h.v.lt; omega)).trans h.lf, h.lq⟩
theorem V2.putZ (h : V2 w0 K G d p X Y q Z w) (i : Nat) (v : Value) : V2 w0 K G d p X Y q (Z.setIfInBounds i v) (w.setCell ⟨q, i, none⟩ v) := by
  have hl := h.v.lt
  have hq := h.lq
  have g : ∀ c, c ≠ q → (w.setCell ⟨q, i, none⟩ v).heap[c]? = w.heap[c]? := fun c hc => Below.heap_setCell _ _ _ _ hc
  exact ⟨⟨(g _ (by omega)).trans h.v.kp, (g _ (by omega)).trans h.v.ag, (g _ (by omega)).trans h.v.dk, (g _ (by omega)).trans h.v.al, (g _ (by omega)).trans h.v.sf, hl, h.v.below.setCell (show w0.heap.size ≤ q by omega) _⟩, put_at h.lf, hq⟩
end
/-- So many of four are filled. -/
def fill (z a b c e : Value) : Nat → Array Value
  | 0 => #[z, z, z, z]
  | 1 => #[a, z, z, z]
  | 2 => #[a, b, z, z]
  | 3 => #[a, b, c, z]
  | _ => #[a, b, c, e]
theorem new_two {w0 w : World} {K G : Array Value} {d : Dk} (hk : w.heap[w0.heap.size]? = some (.cells K 59 (0, 0))) (hg : w.heap[w0.heap.size + 1]? = some (.cells G 59 (0, 0))) (hd : D.Is (w0.heap.size + 2) d w) (hb : Below w0.heap.size w0 w) (X Y : Array Value) :
    V w0 K G d w.heap.size X Y ((w.alloc (.cells X 75)).alloc (.cells Y 59)) := by
  have g : ∀ c x, w.heap[c]? = some x → ((w.alloc (.cells X 75)).alloc (.cells Y 59)).heap[c]? = some x := fun c x e => by
    rw [Below.heap_alloc _ _ _ (by have := lt_of_block e; simp; omega), Below.heap_alloc _ _ _ (lt_of_block e)]; exact e
  refine ⟨g _ _ hk, g _ _ hg, g _ _ hd, ?_, at2 _ _ _, lt_of_block hd, (hb.alloc (by have := lt_of_block hk; omega) _).alloc (by have := lt_of_block hk; simp; omega) _⟩
  rw [Below.heap_alloc _ _ _ (by simp)]; exact heap_alloc_new _ _
theorem new_third {w0 w : World} {K G X Y : Array Value} {d : Dk} {p : Nat} (h : V w0 K G d p X Y w) (Z : Array Value) : V2 w0 K G d p X Y w.heap.size Z (w.alloc (.cells Z 75)) :=
  ⟨h.alloc _, heap_alloc_new _ _, lt_of_block h.sf⟩
theorem four_cells {w : World} {p : Nat} {a b c e : Value} {ty : TypeId} (h : w.heap[p]? = some (.cells #[a, b, c, e] ty (0, 0))) :
    (w.cell? ⟨p, 0, none⟩ = some a ∧ w.cell? ⟨p, 1, none⟩ = some b ∧ w.cell? ⟨p, 2, none⟩ = some c ∧ w.cell? ⟨p, 3, none⟩ = some e) ∧
    w.frozen? ⟨p, 0, none⟩ = false ∧ w.frozen? ⟨p, 1, none⟩ = false ∧ w.frozen? ⟨p, 2, none⟩ = false ∧ w.frozen? ⟨p, 3, none⟩ = false := by
  refine ⟨⟨?_, ?_, ?_, ?_⟩, ?_, ?_, ?_, ?_⟩ <;> simp [World.cell?, World.frozen?, h]
/-- What the first loop keeps. -/
structure W1 (c : Nat) (K G : Array Value) (w0 w : World) : Prop where
  st : ∃ d : Dk, D.Is (w0.heap.size + 2) d w ∧ Is c (toR d) w ∧ d.made = true ∧ d.Fits ∧ d.dead = false ∧ d.left = -1
  kp : w.heap[w0.heap.size]? = some (.cells K 59 (0, 0))
  ag : w.heap[w0.heap.size + 1]? = some (.cells G 59 (0, 0))
  lt : w0.heap.size + 2 < c
  below : Below w0.heap.size w0 w
theorem three_new {w0 w1 w2 : World} (K G : Array Value) (h1 : D.Is (w0.heap.size + 2) zero w1) (b1 : Below (w0.heap.size + 2) ((w0.alloc (.cells K 59)).alloc (.cells G 59)) w1) (b2 : Below w1.heap.size w1 w2) :
    W1 w2.heap.size K G w0 (w2.alloc (.cells (toR zero).cells 69)) := by
  have hb := lt_of_block h1
  have h2 : D.Is (w0.heap.size + 2) zero w2 := (b2.block _ hb).trans h1
  have hb2 := lt_of_block h2
  have g : ∀ k, k < w0.heap.size + 2 → (w2.alloc (.cells (toR zero).cells 69)).heap[k]? = ((w0.alloc (.cells K 59)).alloc (.cells G 59)).heap[k]? := fun k hk => by
    rw [Below.heap_alloc _ _ _ (by omega), b2.block k (by omega), b1.block k hk]
  refine ⟨⟨zero, ?_, heap_alloc_new _ _, rfl, zero_fits, rfl, rfl⟩, ?_, ?_, hb2, ?_⟩
  · unfold D.Is at h2 ⊢
    rw [Below.heap_alloc _ _ _ hb2]
    exact h2
  · rw [g _ (by omega), Below.heap_alloc _ _ _ (by simp)]; exact heap_alloc_new _ _
  · rw [g _ (by omega)]; exact at2 _ _ _
  · have b0 : Below w0.heap.size w0 ((w0.alloc (.cells K 59)).alloc (.cells G 59)) := ((Below.refl _ _).alloc (Nat.le_refl _) _).alloc (by simp) _
    exact ((b0.trans (b1.mono (by omega))).trans (b2.mono (by omega))).alloc (by omega) _
theorem W1.next {c : Nat} {K G : Array Value} {w0 w wa w' : World} {d' : Dk} {o : Obj} (h : W1 c K G w0 w) (ea : wa = w.alloc o) (hm : d'.made = true) (hf : d'.Fits) (h1 : d'.dead = false) (h2 : d'.left = -1) (T : Both (w0.heap.size + 2) c d' wa w') : W1 c K G w0 w' := by
  subst ea
  have hl := h.lt
  have g : ∀ k x, k ≠ w0.heap.size + 2 → k ≠ c → w.heap[k]? = some x → w'.heap[k]? = some x := fun k x e1 e2 e => by
    rw [T.others k (by have := lt_of_block e; simp; omega) e1 e2, Below.heap_alloc _ _ _ (lt_of_block e)]; exact e
  exact ⟨⟨d', T.dk, T.rf, hm, hf, h1, h2⟩, g _ _ (by omega) (by omega) h.kp, g _ _ (by omega) (by omega) h.ag, hl, (h.below.alloc (by have := lt_of_block h.kp; omega) _).trans (T.below _ (by omega) (by omega))⟩
theorem W1.alloc {c : Nat} {K G : Array Value} {w0 w : World} (h : W1 c K G w0 w) (o : Obj) : W1 c K G w0 (w.alloc o) := by
  have g : ∀ k x, w.heap[k]? = some x → (w.alloc o).heap[k]? = some x := fun k x e => (Below.heap_alloc _ _ _ (lt_of_block e)).trans e
  obtain ⟨d, a, b, e⟩ := h.st
  exact ⟨⟨d, g _ _ a, g _ _ b, e⟩, g _ _ h.kp, g _ _ h.ag, h.lt, h.below.alloc (by have := lt_of_block h.kp; omega) _⟩
theorem cell_alloc {w : World} {a : Addr} {v : Value} (o : Obj) (h : w.cell? a = some v) : (w.alloc o).cell? a = some v :=
  (World.cell?_alloc_lt _ _ _ (World.block_lt_of_cell? w a h)).trans h
end Go.Proofs.Ytejfdiiennnjjaa.R
