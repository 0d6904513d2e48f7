/- How a list of acts that comes in is read: by its cells, eight for each. -/
import Derived.Test.YtejfdiiennnjjaaDs
import Derived.OpenShut
import Derived.Deep.Slices
import Derived.SizedLaws
namespace Go.Proofs.Ytejfdiiennnjjaa
open Go.ChangeShapes Go.WideShapes Go.RowKit Go.Deep
set_option linter.unusedVariables false

/-- A call, as the laws of package disk take it. -/
structure Ac where
  kind : Int
  file : Int
  text : ByteArray
  n : Int
  k0 : Int
  k1 : Int
  k2 : Int
  k3 : Int
  deriving Inhabited
def Ac.cells (a : Ac) : List Value := [.int .i64 a.kind, .int .i64 a.file, .string a.text, .int .i64 a.n, .int .i64 a.k0, .int .i64 a.k1, .int .i64 a.k2, .int .i64 a.k3]
def i64b (n : Int) : Prop := -9223372036854775808 ≤ n ∧ n ≤ 9223372036854775807
def Ac.Wf (a : Ac) : Prop := i64b a.kind ∧ i64b a.file ∧ i64b a.n ∧ i64b a.k0 ∧ i64b a.k1 ∧ i64b a.k2 ∧ i64b a.k3 ∧ a.text.size ≤ maxLen
theorem i64b_of {n : Int} (h : (Lit.int .i64 n).wf = true) : i64b n := by
  simp [Lit.wf, IntKind.min, IntKind.max, IntKind.signed, IntKind.bits] at h
  unfold i64b; omega

section
variable {H : Type} {enc : TypeId × Value → H} {P : Program} {w : World} {base : Nat} {spare : Nat → Bool} {held : Bool}
theorem one_int {fuel : Nat} {t : TypeId} {c : Value} {x : DataW H × List MemPlace} (ht : P.underlying t = some (.int .i64)) (h : DataW.trod enc P w base spare held fuel t [c] = some x) : ∃ n, c = .int .i64 n ∧ i64b n := by
  obtain ⟨n, e, _, hw⟩ := DataW.trod_int ht h
  exact ⟨n, by simpa using e, i64b_of hw⟩
theorem one_text {fuel : Nat} {t : TypeId} {c : Value} {x : DataW H × List MemPlace} (ht : P.underlying t = some .string) (h : DataW.trod enc P w base spare held fuel t [c] = some x) : ∃ s, c = .string s ∧ s.size ≤ maxLen := by
  obtain ⟨n, e, _, hw⟩ := DataW.trod_string ht h
  exact ⟨n, by simpa using e, hw⟩
theorem some_at {α : Type} {l : List α} {i n : Nat} (h : l.length = n) (hi : i < n) : ∃ y, l[i]? = some y := ⟨_, List.getElem?_eq_getElem (by omega)⟩
theorem act_at {fuel : Nat} {cs : List Value} {x : DataW H × List MemPlace} {n0 n1 n2 n3 n4 : Field}
    (hu : P.underlying 61 = some (.struct #[n0, n1, n2, n3, n4])) (hn : (n0.type, n0.offset, n1.type, n1.offset, n2.type, n2.offset, n3.type, n3.offset, n4.type, n4.offset) = (3, 0, 3, 1, 9, 2, 3, 3, 59, 4))
    (ha : P.underlying 59 = some (.array 4 3)) (hi : P.underlying 3 = some (.int .i64)) (hst : P.underlying 9 = some .string)
    (z61 : P.cellsOf 61 = 8) (z59 : P.cellsOf 59 = 4) (z3 : P.cellsOf 3 = 1) (z9 : P.cellsOf 9 = 1) (h : DataW.trod enc P w base spare held fuel 61 cs = some x) : ∃ a : Ac, a.Wf ∧ cs = a.cells := by
  obtain ⟨xs, n, _, _, hlen, hxl, hf⟩ := DataW.trod_struct hu h
  simp only [Prod.mk.injEq] at hn
  obtain ⟨t0, o0, t1, o1, t2, o2, t3, o3, t4, o4⟩ := hn
  rw [z61] at hlen
  have hxl : xs.length = 5 := hxl
  have g0 := hf 0 n0 rfl
  have g1 := hf 1 n1 rfl
  have g2 := hf 2 n2 rfl
  have g3 := hf 3 n3 rfl
  have g4 := hf 4 n4 rfl
  rw [t0, o0, z3] at g0
  rw [t1, o1, z3] at g1
  rw [t2, o2, z9] at g2
  rw [t3, o3, z3] at g3
  rw [t4, o4, z59] at g4
  obtain ⟨y0, e0⟩ := some_at hxl (i := 0) (by omega)
  obtain ⟨y1, e1⟩ := some_at hxl (i := 1) (by omega)
  obtain ⟨y2, e2⟩ := some_at hxl (i := 2) (by omega)
  obtain ⟨y3, e3⟩ := some_at hxl (i := 3) (by omega)
  obtain ⟨y4, e4⟩ := some_at hxl (i := 4) (by omega)
  rw [e0] at g0
  rw [e1] at g1
  rw [e2] at g2
  rw [e3] at g3
  rw [e4] at g4
  match cs, hlen with
  | [c0, c1, c2, c3, c4, c5, c6, c7], _ =>
    obtain ⟨k, rfl, wk⟩ := one_int hi g0
    obtain ⟨f, rfl, wf⟩ := one_int hi g1
    obtain ⟨s, rfl, ws⟩ := one_text hst g2
    obtain ⟨m, rfl, wm⟩ := one_int hi g3
    obtain ⟨zs, q, _, _, hzl, hzn, hz⟩ := DataW.trod_array ha g4
    obtain ⟨u0, d0⟩ := some_at hzn (i := 0) (by omega)
    obtain ⟨u1, d1⟩ := some_at hzn (i := 1) (by omega)
    obtain ⟨u2, d2⟩ := some_at hzn (i := 2) (by omega)
    obtain ⟨u3, d3⟩ := some_at hzn (i := 3) (by omega)
    have p0 := hz 0 (by omega)
    have p1 := hz 1 (by omega)
    have p2 := hz 2 (by omega)
    have p3 := hz 3 (by omega)
    rw [z3, d0] at p0
    rw [z3, d1] at p1
    rw [z3, d2] at p2
    rw [z3, d3] at p3
    obtain ⟨a0, rfl, w0⟩ := one_int hi p0
    obtain ⟨a1, rfl, w1⟩ := one_int hi p1
    obtain ⟨a2, rfl, w2⟩ := one_int hi p2
    obtain ⟨a3, rfl, w3⟩ := one_int hi p3
    exact ⟨⟨k, f, s, m, a0, a1, a2, a3⟩, ⟨wk, wf, wm, w0, w1, w2, w3, ws⟩, rfl⟩
end

/-- The slice at that address holds those calls. -/
def Acts (A : Option Addr) (l : List Ac) (w : World) : Prop :=
  ∀ j, j < l.length → ∃ a : Addr, A = some a ∧ a.spot = none ∧ ∀ i, i < 8 → w.cell? (a.add (j * 8 + i)) = (l.getD j default).cells[i]?
theorem build_list {α : Type} [Inhabited α] (Q : Nat → α → Prop) : ∀ n : Nat, (∀ j, j < n → ∃ a, Q j a) → ∃ l : List α, l.length = n ∧ ∀ j, j < n → Q j (l.getD j default) := by
  intro n
  induction n with
  | zero => intro _; exact ⟨[], rfl, fun j h => absurd h (by omega)⟩
  | succ n ih =>
    intro h
    obtain ⟨l, hl, hq⟩ := ih fun j hj => h j (by omega)
    obtain ⟨a, ha⟩ := h n (by omega)
    refine ⟨l ++ [a], by simp [hl], fun j hj => ?_⟩
    by_cases e : j = n
    · subst e
      rw [List.getD_eq_getElem?_getD, List.getElem?_append_right (by omega)]
      simpa [hl] using ha
    · rw [List.getD_eq_getElem?_getD, List.getElem?_append_left (by omega), ← List.getD_eq_getElem?_getD]
      exact hq j (by omega)
theorem acts_at {H : Type} {enc : TypeId × Value → H} {P : Program} {W : World} {base b : Nat} {spare : Nat → Bool} {v : Value} {d : DataW H} {p : List MemPlace} {ts : List TypeId} {ds : List (DataW H)} {j : Nat} {n0 n1 n2 n3 n4 : Field}
    (hs : P.underlying 57 = some (.slice 61)) (hu : P.underlying 61 = some (.struct #[n0, n1, n2, n3, n4])) (hn : (n0.type, n0.offset, n1.type, n1.offset, n2.type, n2.offset, n3.type, n3.offset, n4.type, n4.offset) = (3, 0, 3, 1, 9, 2, 3, 3, 59, 4))
    (ha : P.underlying 59 = some (.array 4 3)) (hi : P.underlying 3 = some (.int .i64)) (hst : P.underlying 9 = some .string)
    (z61 : P.cellsOf 61 = 8) (z59 : P.cellsOf 59 = 4) (z3 : P.cellsOf 3 = 1) (z9 : P.cellsOf 9 = 1) (b61 : P.bytesOf 61 = 72)
    (hsz : (DataW.weightsEach P ts ds).all (· ≤ reachBytes) = true) (ht : ts[j]? = some 57) (hd : ds[j]? = some d)
    (hv : Value.okWide P W .any base 57 v) (h : DataW.Trod enc P W b spare true 57 v d p) :
    ∃ (A : Option Addr) (c : Nat) (l : List Ac), v = .slice A l.length c ∧ Acts A l W ∧ (∀ j, j < l.length → (l.getD j default).Wf) ∧ l.length * 72 ≤ 140737488351232 := by
  obtain ⟨a0, len, cap, rfl⟩ := okWide_slice hs hv
  obtain ⟨fuel, hf⟩ := h
  rcases open_slice hs hf with ⟨hcs, hx⟩ | ⟨a, len', cap', m, n, D, Pl, hcs, hb, hl, hm, hmm, hx, hi'⟩
  · simp [Value.cells] at hcs
    obtain ⟨rfl, rfl, rfl⟩ := hcs
    exact ⟨none, 0, [], rfl, fun j hj => absurd hj (by simp), fun j hj => absurd hj (by simp), by simp⟩
  · simp [Value.cells] at hcs
    obtain ⟨rfl, rfl, rfl⟩ := hcs
    obtain ⟨hx1, _⟩ := Prod.mk.inj hx
    subst hx1
    have hlm : len ≤ m := by rw [hmm]; split <;> omega
    have hsl := sized_slice hsz ht hd hs
    rw [b61] at hsl
    simp only [List.length_map, List.length_range] at hsl
    obtain ⟨l, hl', hq⟩ := build_list (fun (j : Nat) (x : Ac) => x.Wf ∧ ∀ i, i < 8 → W.cell? (a.add (j * 8 + i)) = x.cells[i]?) len (fun j hj => by
      obtain ⟨cs', hc, ht'⟩ := hi' j (by omega)
      obtain ⟨x, wx, rfl⟩ := act_at hu hn ha hi hst z61 z59 z3 z9 ht'
      obtain ⟨_, _, hat⟩ := World.cells?_some hc
      rw [z61] at hat
      refine ⟨x, wx, fun i hi => ?_⟩
      rw [← Go.Deep.add_add]
      exact hat i hi)
    have hr : reachBytes = 140737488351232 := rfl
    rw [hr] at hsl
    refine ⟨some a, cap, l, by rw [hl'], fun j hj => ⟨a, rfl, ?_, (hq j (by omega)).2⟩, fun j hj => (hq j (by omega)).1, by rw [hl']; omega⟩
    have h0 := (hq 0 (by omega)).2 0 (by omega)
    simp only [Addr.add, World.cell?] at h0
    cases hsp : a.spot with
    | none => rfl
    | some s =>
      simp only [hsp, Option.isSome_some, if_true, Nat.zero_mul, Nat.add_zero] at h0
      split at h0 <;> simp [Ac.cells] at h0
set_option maxRecDepth 100000 in
theorem open_acts {H : Type} {enc : TypeId × Value → H} {W : World} {base b : Nat} {spare : Nat → Bool} {v : Value} {d : DataW H} {p : List MemPlace} {ts : List TypeId} {ds : List (DataW H)} {j : Nat}
    (hsz : (DataW.weightsEach Try.prog ts ds).all (· ≤ reachBytes) = true) (ht : ts[j]? = some 57) (hd : ds[j]? = some d)
    (hv : Value.okWide Try.prog W .any base 57 v) (h : DataW.Trod enc Try.prog W b spare true 57 v d p) :
    ∃ (A : Option Addr) (c : Nat) (l : List Ac), v = .slice A l.length c ∧ Acts A l W ∧ (∀ j, j < l.length → (l.getD j default).Wf) ∧ l.length * 72 ≤ 140737488351232 :=
  acts_at Try.underlying57 Try.underlying61 rfl Try.underlying59 Try.underlying3 Try.underlying9 (by kernel_rfl) (by kernel_rfl) (by kernel_rfl) (by kernel_rfl) (by kernel_rfl) hsz ht hd hv h
/-- The acts lie where they lay, if their blocks are as they were. -/
theorem Acts.keep {A : Option Addr} {l : List Ac} {w w' : World} (h : Acts A l w) (hk : ∀ c, c < w.heap.size → w'.heap[c]? = w.heap[c]?) : Acts A l w' := by
  intro j hj
  obtain ⟨a, e, hs, hc⟩ := h j hj
  refine ⟨a, e, hs, fun i hi => ?_⟩
  have := hc i hi
  rw [← this]
  have hb : (a.add (j * 8 + i)).block = a.block := by unfold Addr.add; split <;> rfl
  have hlt : a.block < w.heap.size := by
    have h0 := hc 0 (by omega)
    simp only [World.cell?] at h0
    have hb0 : (a.add (j * 8 + 0)).block = a.block := by unfold Addr.add; split <;> rfl
    rw [hb0] at h0
    apply Classical.byContradiction
    intro hn
    rw [Array.getElem?_eq_none (by omega)] at h0
    simp [Ac.cells] at h0
  unfold World.cell?
  rw [hb, hk _ hlt]
end Go.Proofs.Ytejfdiiennnjjaa
