/- How a list of crashes that comes in is read, five cells for each, and a list of bytes. JournalSafe: its state behind each act. JournalSafe: the walk. -/
import Derived.Test.YtejfdiiennnjjaaZb
import Derived.Test.YtejfdiiennnjjaaWMore
import Derived.Test.YtejfdiiennnjjaaZl
import Derived.Deep.DeepCutAuto
import Derived.Deep.LoopGhost
namespace Go.Proofs.Ytejfdiiennnjjaa
open Go.ChangeShapes Go.WideShapes Go.RowKit Go.Deep Go.Proofs.YtejfdiiennnjjaaW.PrintWords
set_option linter.unusedVariables false

/-- A crash, as the journal's law takes it. -/
structure Bl where
  lim : Int
  k0 : Int
  k1 : Int
  k2 : Int
  k3 : Int
  deriving Inhabited
def Bl.cells (a : Bl) : List Value := [.int .i64 a.lim, .int .i64 a.k0, .int .i64 a.k1, .int .i64 a.k2, .int .i64 a.k3]
def Bl.Wf (a : Bl) : Prop := i64b a.lim ∧ i64b a.k0 ∧ i64b a.k1 ∧ i64b a.k2 ∧ i64b a.k3
section
variable {H : Type} {enc : TypeId × Value → H} {P : Program} {w : World} {base : Nat} {spare : Nat → Bool} {held : Bool}
theorem blow_at {fuel : Nat} {cs : List Value} {x : DataW H × List MemPlace} {n0 n1 : Field}
    (hu : P.underlying 102 = some (.struct #[n0, n1])) (hn : (n0.type, n0.offset, n1.type, n1.offset) = (3, 0, 59, 1))
    (ha : P.underlying 59 = some (.array 4 3)) (hi : P.underlying 3 = some (.int .i64))
    (z102 : P.cellsOf 102 = 5) (z59 : P.cellsOf 59 = 4) (z3 : P.cellsOf 3 = 1) (h : DataW.trod enc P w base spare held fuel 102 cs = some x) : ∃ a : Bl, a.Wf ∧ cs = a.cells := by
  obtain ⟨xs, n, _, _, hlen, hxl, hf⟩ := DataW.trod_struct hu h
  simp only [Prod.mk.injEq] at hn
  obtain ⟨t0, o0, t1, o1⟩ := hn
  rw [z102] at hlen
  have hxl : xs.length = 2 := hxl
  have g0 := hf 0 n0 rfl
  have g1 := hf 1 n1 rfl
  rw [t0, o0, z3] at g0
  rw [t1, o1, z59] at g1
  obtain ⟨y0, e0⟩ := some_at hxl (i := 0) (by omega)
  obtain ⟨y1, e1⟩ := some_at hxl (i := 1) (by omega)
  rw [e0] at g0
  rw [e1] at g1
  match cs, hlen with
  | [c0, c4, c5, c6, c7], _ =>
    obtain ⟨k, rfl, wk⟩ := one_int hi g0
    obtain ⟨zs, q, _, _, hzl, hzn, hz⟩ := DataW.trod_array ha g1
    obtain ⟨u0, d0⟩ := some_at hzn (i := 0) (by omega)
    obtain ⟨u1, d1⟩ := some_at hzn (i := 1) (by omega)
    obtain ⟨u2, d2⟩ := some_at hzn (i := 2) (by omega)
    obtain ⟨u3, d3⟩ := some_at hzn (i := 3) (by omega)
    have p0 := hz 0 (by omega)
    have p1 := hz 1 (by omega)
    have p2 := hz 2 (by omega)
    have p3 := hz 3 (by omega)
    rw [z3, d0] at p0
    rw [z3, d1] at p1
    rw [z3, d2] at p2
    rw [z3, d3] at p3
    obtain ⟨a0, rfl, w0⟩ := one_int hi p0
    obtain ⟨a1, rfl, w1⟩ := one_int hi p1
    obtain ⟨a2, rfl, w2⟩ := one_int hi p2
    obtain ⟨a3, rfl, w3⟩ := one_int hi p3
    exact ⟨⟨k, a0, a1, a2, a3⟩, ⟨wk, w0, w1, w2, w3⟩, rfl⟩
end
/-- The slice at that address holds those crashes. -/
def Blows (A : Option Addr) (l : List Bl) (w : World) : Prop :=
  ∀ j, j < l.length → ∃ a : Addr, A = some a ∧ a.spot = none ∧ ∀ i, i < 5 → w.cell? (a.add (j * 5 + i)) = (l.getD j default).cells[i]?
theorem blows_at {H : Type} {enc : TypeId × Value → H} {P : Program} {W : World} {base b : Nat} {spare : Nat → Bool} {v : Value} {d : DataW H} {p : List MemPlace} {ts : List TypeId} {ds : List (DataW H)} {j : Nat} {n0 n1 : Field}
    (hs : P.underlying 100 = some (.slice 102)) (hu : P.underlying 102 = some (.struct #[n0, n1])) (hn : (n0.type, n0.offset, n1.type, n1.offset) = (3, 0, 59, 1))
    (ha : P.underlying 59 = some (.array 4 3)) (hi : P.underlying 3 = some (.int .i64))
    (z102 : P.cellsOf 102 = 5) (z59 : P.cellsOf 59 = 4) (z3 : P.cellsOf 3 = 1) (b102 : P.bytesOf 102 = 40)
    (hsz : (DataW.weightsEach P ts ds).all (· ≤ reachBytes) = true) (ht : ts[j]? = some 100) (hd : ds[j]? = some d)
    (hv : Value.okWide P W .any base 100 v) (h : DataW.Trod enc P W b spare true 100 v d p) :
    ∃ (A : Option Addr) (c : Nat) (l : List Bl), v = .slice A l.length c ∧ Blows A l W ∧ (∀ j, j < l.length → (l.getD j default).Wf) ∧ l.length * 40 ≤ 140737488351232 := by
  obtain ⟨a0, len, cap, rfl⟩ := okWide_slice hs hv
  obtain ⟨fuel, hf⟩ := h
  rcases open_slice hs hf with ⟨hcs, hx⟩ | ⟨a, len', cap', m, n, D, Pl, hcs, hb, hl, hm, hmm, hx, hi'⟩
  · simp [Value.cells] at hcs
    obtain ⟨rfl, rfl, rfl⟩ := hcs
    exact ⟨none, 0, [], rfl, fun j hj => absurd hj (by simp), fun j hj => absurd hj (by simp), by simp⟩
  · simp [Value.cells] at hcs
    obtain ⟨rfl, rfl, rfl⟩ := hcs
    obtain ⟨hx1, _⟩ := Prod.mk.inj hx
    subst hx1
    have hlm : len ≤ m := by rw [hmm]; split <;> omega
    have hsl := sized_slice hsz ht hd hs
    rw [b102] at hsl
    simp only [List.length_map, List.length_range] at hsl
    obtain ⟨l, hl', hq⟩ := build_list (fun (j : Nat) (x : Bl) => x.Wf ∧ ∀ i, i < 5 → W.cell? (a.add (j * 5 + i)) = x.cells[i]?) len (fun j hj => by
      obtain ⟨cs', hc, ht'⟩ := hi' j (by omega)
      obtain ⟨x, wx, rfl⟩ := blow_at hu hn ha hi z102 z59 z3 ht'
      obtain ⟨_, _, hat⟩ := World.cells?_some hc
      rw [z102] at hat
      refine ⟨x, wx, fun i hi => ?_⟩
      rw [← Go.Deep.add_add]
      exact hat i hi)
    have hr : reachBytes = 140737488351232 := rfl
    rw [hr] at hsl
    refine ⟨some a, cap, l, by rw [hl'], fun j hj => ⟨a, rfl, ?_, (hq j (by omega)).2⟩, fun j hj => (hq j (by omega)).1, by rw [hl']; omega⟩
    have h0 := (hq 0 (by omega)).2 0 (by omega)
    simp only [Addr.add, World.cell?] at h0
    cases hsp : a.spot with
    | none => rfl
    | some s =>
      simp only [hsp, Option.isSome_some, if_true, Nat.zero_mul, Nat.add_zero] at h0
      split at h0 <;> simp [Bl.cells] at h0
set_option maxRecDepth 100000 in
theorem open_blows {H : Type} {enc : TypeId × Value → H} {W : World} {base b : Nat} {spare : Nat → Bool} {v : Value} {d : DataW H} {p : List MemPlace} {ts : List TypeId} {ds : List (DataW H)} {j : Nat}
    (hsz : (DataW.weightsEach Try.prog ts ds).all (· ≤ reachBytes) = true) (ht : ts[j]? = some 100) (hd : ds[j]? = some d)
    (hv : Value.okWide Try.prog W .any base 100 v) (h : DataW.Trod enc Try.prog W b spare true 100 v d p) :
    ∃ (A : Option Addr) (c : Nat) (l : List Bl), v = .slice A l.length c ∧ Blows A l W ∧ (∀ j, j < l.length → (l.getD j default).Wf) ∧ l.length * 40 ≤ 140737488351232 :=
  blows_at Try.underlying100 Try.underlying102 rfl Try.underlying59 Try.underlying3 (by kernel_rfl) (by kernel_rfl) (by kernel_rfl) (by kernel_rfl) hsz ht hd hv h
/-- The crashes lie where they lay, if their blocks are as they were. -/
theorem Blows.keep {A : Option Addr} {l : List Bl} {w w' : World} (h : Blows A l w) (hk : ∀ c, c < w.heap.size → w'.heap[c]? = w.heap[c]?) : Blows A l w' := by
  intro j hj
  obtain ⟨a, e, hs, hc⟩ := h j hj
  refine ⟨a, e, hs, fun i hi => ?_⟩
  have := hc i hi
  rw [← this]
  have hb : (a.add (j * 5 + i)).block = a.block := by unfold Addr.add; split <;> rfl
  have hlt : a.block < w.heap.size := by
    have h0 := hc 0 (by omega)
    simp only [World.cell?] at h0
    have hb0 : (a.add (j * 5 + 0)).block = a.block := by unfold Addr.add; split <;> rfl
    rw [hb0] at h0
    apply Classical.byContradiction
    intro hn
    rw [Array.getElem?_eq_none (by omega)] at h0
    simp [Bl.cells] at h0
  unfold World.cell?
  rw [hb, hk _ hlt]

theorem bytes_at {H : Type} {enc : TypeId × Value → H} {P : Program} {W : World} {base b : Nat} {spare : Nat → Bool} {v : Value} {d : DataW H} {p : List MemPlace} {ts : List TypeId} {ds : List (DataW H)} {j : Nat}
    (hs : P.underlying 27 = some (.slice 5)) (hi : P.underlying 5 = some (.int .u8)) (z5 : P.cellsOf 5 = 1) (b5 : P.bytesOf 5 = 1)
    (hsz : (DataW.weightsEach P ts ds).all (· ≤ reachBytes) = true) (ht : ts[j]? = some 27) (hd : ds[j]? = some d)
    (hv : Value.okWide P W .any base 27 v) (h : DataW.Trod enc P W b spare true 27 v d p) :
    ∃ (A : Option Addr) (c : Nat) (l : List Int), v = .slice A l.length c ∧ Kd.C (Kd.int .u8) W A l.length l ∧ (∀ j, j < l.length → 0 ≤ l.getD j 0 ∧ l.getD j 0 ≤ 255) ∧ l.length ≤ 140737488351232 := by
  obtain ⟨a0, len, cap, rfl⟩ := okWide_slice hs hv
  obtain ⟨fuel, hf⟩ := h
  rcases open_slice hs hf with ⟨hcs, hx⟩ | ⟨a, len', cap', m, n, D, Pl, hcs, hb, hl, hm, hmm, hx, hi'⟩
  · simp [Value.cells] at hcs
    obtain ⟨rfl, rfl, rfl⟩ := hcs
    exact ⟨none, 0, [], rfl, Kd.C_of_reads (d := 0) ⟨rfl, by simp, fun h => absurd h (by simp)⟩, fun j hj => absurd hj (by simp), by simp⟩
  · simp [Value.cells] at hcs
    obtain ⟨rfl, rfl, rfl⟩ := hcs
    obtain ⟨hx1, _⟩ := Prod.mk.inj hx
    subst hx1
    have hlm : len ≤ m := by rw [hmm]; split <;> omega
    have hsl := sized_slice hsz ht hd hs
    rw [b5] at hsl
    simp only [List.length_map, List.length_range] at hsl
    obtain ⟨l, hl', hq⟩ := build_list (fun (j : Nat) (x : Int) => (0 ≤ x ∧ x ≤ 255) ∧ W.cell? (a.add j) = some (.int .u8 x)) len (fun j hj => by
      obtain ⟨cs', hc, ht'⟩ := hi' j (by omega)
      obtain ⟨x, e, _, hw⟩ := DataW.trod_int hi ht'
      have e' : cs' = [.int .u8 x] := by simpa using e
      subst e'
      obtain ⟨_, _, hat⟩ := World.cells?_some hc
      rw [z5, Nat.mul_one] at hat
      have h0 := hat 0 (by omega)
      rw [Go.Deep.add_add] at h0
      refine ⟨x, ?_, by simpa using h0⟩
      simp [Lit.wf, IntKind.min, IntKind.max, IntKind.signed, IntKind.bits] at hw
      omega)
    have hr : reachBytes = 140737488351232 := rfl
    rw [hr] at hsl
    refine ⟨some a, cap, l, by rw [hl'], ?_, fun j hj => (hq j (by omega)).1, by rw [hl']; omega⟩
    rw [hl']
    exact Kd.C_of_reads (d := 0) ⟨hl', by omega, fun _ => ⟨a, rfl, fun j hj => (hq j hj).2⟩⟩
set_option maxRecDepth 100000 in
theorem open_bytes {H : Type} {enc : TypeId × Value → H} {W : World} {base b : Nat} {spare : Nat → Bool} {v : Value} {d : DataW H} {p : List MemPlace} {ts : List TypeId} {ds : List (DataW H)} {j : Nat}
    (hsz : (DataW.weightsEach Try.prog ts ds).all (· ≤ reachBytes) = true) (ht : ts[j]? = some 27) (hd : ds[j]? = some d)
    (hv : Value.okWide Try.prog W .any base 27 v) (h : DataW.Trod enc Try.prog W b spare true 27 v d p) :
    ∃ (A : Option Addr) (c : Nat) (l : List Int), v = .slice A l.length c ∧ Kd.C (Kd.int .u8) W A l.length l ∧ (∀ j, j < l.length → 0 ≤ l.getD j 0 ∧ l.getD j 0 ≤ 255) ∧ l.length ≤ 140737488351232 :=
  bytes_at Try.underlying27 Try.underlying5 (by kernel_rfl) (by kernel_rfl) hsz ht hd hv h
end Go.Proofs.Ytejfdiiennnjjaa
namespace Go.Proofs.Ytejfdiiennnjjaa.J
open Go.RowKit Go.Proofs Go.Proofs.Ytejfdiiennnjjaa Go.Proofs.YtejfdiiennnjjaaW.PrintWords Go.Proofs.YtejfdiiennnjjaaW.PrintLast Go.Proofs.YtejfdiiennnjjaaW.PrintMore Go.Proofs.Ytejfdiiennnjjaa.D
set_option linter.unusedVariables false

theorem drewB (B : Nat) (w : World) (n : Nat) : Below B w (w.drewN n) := ⟨rfl, rfl, rfl, Nat.le_refl _, fun _ _ => rfl⟩
theorem lie_left {d : Dk} {f : Int} {A P C Q : ByteArray} (h : Lie d f A P C Q) (n : Int) (hn : i64b n) : Lie { d with left := n } f A P C Q := by
  obtain ⟨f0, f1, f2, f3, f4, f5⟩ := h.fits
  exact ⟨h.made, ⟨f0, f1, f2, f3, hn.2, hn.1⟩, h.file, h.s, h.l, h.s', h.l'⟩
theorem joinT_nil : joinT [] = ⟨#[]⟩ := rfl
section
variable {jb db B m n : Nat} {F : Nat → Prop} {all : List ByteArray} {K : Prop} {w w' : World}
theorem js_start (h : Jt jb db 0 1 0 ⟨#[]⟩ [] (lay 1 0 ⟨#[]⟩) ⟨#[]⟩ B w) : Js jb db (fun k => B ≤ k ∧ k < w.heap.size) [] 1 0 K B w := by
  obtain ⟨j, d, J, rfl, e2, e3, e4, e5, e6, t⟩ := h.ex
  refine ⟨fun k hk => hk, J.ko.lt _ (.inr (.inl rfl)), j, [], d, 1, 0, J.ko, J.ko.lt, rfl, e6, e3, e4, ⟨t.dead, ⟨Nat.le_refl _, Nat.le_refl _, Nat.le_refl _, by simp, [], rfl, e5, rfl⟩, ⟨#[]⟩, none, ?_, tells_none, by show 0 < 1; omega⟩, .inl (by rw [t.left]; decide)⟩
  rw [e2, e5, cont_nil]
  exact ⟨t.made, t.fits, .inl rfl, t.s0, t.l0, t.s1, t.l1⟩
theorem js_limit (h : Js jb db F all m n K B w) (hK : K) (x : Int) (hx : i64b x) :
    Calls Try.prog 35 #[.pointer (some ⟨db, 0, none⟩), .int .i64 x] w fun e w' => e = .returned (.tuple #[]) ∧ Js jb db F all m n K B w' ∧ Tread F w w' F := by
  obtain ⟨h1, h2, j, l, d, g, q, ko, hF, rfl, hd, hg, hq, ⟨hal, hh, Y, o, hl, ht, ho⟩, _⟩ := h
  refine (D.Limit_any j.db d x w ko.dk).mono fun e w' ⟨he, T⟩ => ⟨he, ⟨fun k hk => ⟨(h1 k hk).1, Nat.lt_of_lt_of_le (h1 k hk).2 T.size⟩, h2, j, l, _, g, q, ko.turn T, hF, rfl, hd, hg, hq, ⟨hal, hh, Y, o, lie_left hl x hx, ht, ho⟩, .inr hK⟩, Tread.of_turn T h2 (fun _ h => .inl h)⟩
theorem zero_no {c : ByteArray} (h : zeroB c = false) (hs : c.size ≤ 4096) : NoZ c := by
  refine ⟨hs, fun b hb e => ?_⟩
  unfold zeroB at h
  rw [List.any_eq_false] at h
  exact h b hb (by rw [e]; rfl)
theorem js_told (h : Js jb db F all m n K B w) (hn : n ≤ 40) : Calls Try.prog 55 #[.pointer (some ⟨jb, 0, none⟩)] w fun e w' => ∃ v, e = .returned v ∧ Kd.R Kd.string 9 w' w.heap.size (fun _ => True) v all ∧ Below w.heap.size w w' := by
  obtain ⟨h1, h2, j, l, d, g, q, ko, hF, rfl, hd, hg, hq, ⟨hal, hh, Y, o, hl, ht, ho⟩, _⟩ := h
  have h3 := hh.q_le
  have h4 := hh.nn
  obtain ⟨a0, e1, e2, e3⟩ := hh.ex
  have := told_any ko a0 (by rw [hq, e3]) e2 (by omega) (by omega) (fun s hs => hh.nz s (by rw [e1]; exact List.mem_append_left _ hs))
  rw [← e1] at this
  exact this
theorem js_seq (h : Js jb db F all m n K B w) (hn : n ≤ 40) : Calls Try.prog 48 #[.pointer (some ⟨jb, 0, none⟩)] w fun e w' => e = .returned (.int .i64 (all.length : Nat)) ∧ ∃ k, w' = w.drewN k := by
  obtain ⟨h1, h2, j, l, d, g, q, ko, hF, rfl, hd, hg, hq, ⟨hal, hh, Y, o, hl, ht, ho⟩, _⟩ := h
  have h3 := hh.q_le
  have h4 := hh.nn
  have := ko_seq ko (by omega) (by omega) (by omega)
  rw [hq, show ((q : Int) + (l.length : Int)) = (all.length : Int) by omega] at this
  exact this
end
/-- A row of texts outside the journal's blocks. -/
def Aside (F : Nat → Prop) (B : Nat) (v : Value) (l : List ByteArray) (w : World) : Prop := Kd.R Kd.string 9 w B (fun b => ¬ F b) v l
/-- An open journal that has all', beside a row that has all. -/
def Go1 (jb db : Nat) (all' all : List ByteArray) (m n : Nat) (K : Prop) (B : Nat) (v : Value) (w wx : World) : Prop := ∃ F, Js jb db F all' m n K B wx ∧ Aside F B v all wx ∧ Below B w wx
/-- A disk that stopped, beside a row that has all. -/
def St1 (db : Nat) (all : List ByteArray) (P : List ByteArray → Prop) (m n : Nat) (B : Nat) (v : Value) (w wx : World) : Prop := ∃ d, D.Is db d wx ∧ De d P m n ∧ Aside (fun b => b = db) B v all wx ∧ Below B w wx
/-- Behind Turn, or Add: the answer x. -/
def Mid (jb db : Nat) (all' all : List ByteArray) (P : List ByteArray → Prop) (m n : Nat) (K : Prop) (B : Nat) (v : Value) (w : World) (x : Int) (wx : World) : Prop := (x = 0 ∧ Go1 jb db all' all m n K B v w wx) ∨ (x = 13 ∧ K ∧ St1 db all P m n B v w wx)
theorem aside_tread {F F' : Nat → Prop} {B : Nat} {v : Value} {l : List ByteArray} {w w' : World} (r : Aside F B v l w) (T : Tread F w w' F') : Aside F' B v l w' :=
  Kd.R_mono (Kd.R_step (Kd.R_bound r) (fun k hk hl => T.block k hl hk.1)) (fun k hk c => by
    rcases T.foot k c with c | c
    · exact hk.1 c
    · have := hk.2.2.1; omega)
theorem act_mid {jb db B m n : Nat} {F : Nat → Prop} {all' all : List ByteArray} {P : List ByteArray → Prop} {K : Prop} {v : Value} {w0 w w' : World} {e : Ending} (hF : ∀ k, F k → B ≤ k) (hB : B ≤ w.heap.size) (r : Aside F B v all w) (b : Below B w0 w) (h : ActPost jb db F all' P m n K B w e w') : ∃ x, e = .returned (.int .i64 x) ∧ Mid jb db all' all P m n K B v w0 x w' := by
  rcases h with ⟨he, J, T⟩ | ⟨hK, he, d, D1, hd, T⟩
  · exact ⟨0, he, .inl ⟨rfl, _, J, aside_tread r T, b.trans (T.toBelow hF hB)⟩⟩
  · exact ⟨13, he, .inr ⟨rfl, hK, d, D1, hd, aside_tread r T, b.trans (T.toBelow hF hB)⟩⟩
theorem blow_cells {w : World} {ad : Addr} {n : Nat} {a : Bl} (h : ∀ i, i < 5 → w.cell? (ad.add (n + i)) = a.cells[i]?) :
    w.cell? (ad.add n) = some (.int .i64 a.lim) ∧ w.cell? ⟨(ad.add n).block, (ad.add n).off + 1, none⟩ = some (.int .i64 a.k0) ∧ w.cell? ⟨(ad.add n).block, (ad.add n).off + 2, none⟩ = some (.int .i64 a.k1) ∧ w.cell? ⟨(ad.add n).block, (ad.add n).off + 3, none⟩ = some (.int .i64 a.k2) ∧ w.cell? ⟨(ad.add n).block, (ad.add n).off + 4, none⟩ = some (.int .i64 a.k3) := by
  have g : ∀ j, j < 4 → w.cell? ⟨(ad.add n).block, (ad.add n).off + (j + 1), none⟩ = a.cells[j + 1]? := fun j hj => by
    rw [← h (j + 1) (by omega), ← Deep.add_add]
    rfl
  exact ⟨h 0 (by omega), g 0 (by omega), g 1 (by omega), g 2 (by omega), g 3 (by omega)⟩
theorem blow_of {A : Option Addr} {bl : List Bl} {w wr : World} (hX : Blows A bl w) (hb : Below w.heap.size w wr) (k : Nat) (h : k < bl.length) : ∃ ad, A = some ad ∧ ad.spot = none ∧
    wr.cell? (ad.add (k * 5)) = some (.int .i64 (bl.getD k default).lim) ∧ wr.cell? ⟨(ad.add (k * 5)).block, (ad.add (k * 5)).off + 1, none⟩ = some (.int .i64 (bl.getD k default).k0) ∧ wr.cell? ⟨(ad.add (k * 5)).block, (ad.add (k * 5)).off + 2, none⟩ = some (.int .i64 (bl.getD k default).k1) ∧ wr.cell? ⟨(ad.add (k * 5)).block, (ad.add (k * 5)).off + 3, none⟩ = some (.int .i64 (bl.getD k default).k2) ∧ wr.cell? ⟨(ad.add (k * 5)).block, (ad.add (k * 5)).off + 4, none⟩ = some (.int .i64 (bl.getD k default).k3) := by
  obtain ⟨ad, hA, hsp, hc⟩ := (hX.keep fun c hc => hb.block c hc) k h
  exact ⟨ad, hA, hsp, blow_cells hc⟩
/-- An empty row, just made. -/
theorem row0 (w0 W : World) (h : w0.heap.size ≤ W.heap.size) : Kd.R Kd.string 9 (W.alloc (.cells #[] 9)) w0.heap.size (fun _ => True) (.slice (some ⟨W.heap.size, 0, none⟩) 0 0) [] := by
  have q := World.ownsRow_made (e := 9) (size := 1) W #[] 0 h (by decide) rfl
  exact Kd.R_of_own (enc := Value.string) (xs := []) q (fun _ _ => trivial)
/-- A row of one, just made. -/
theorem one1 (w0 W : World) (h : w0.heap.size ≤ W.heap.size) (c : ByteArray) : Kd.C Kd.string (W.alloc (.cells #[.string c] 9)) (some ⟨W.heap.size, 0, none⟩) 1 [c] := by
  refine Kd.C_of_reads (d := ByteArray.empty) ⟨rfl, by simp, fun _ => ⟨_, rfl, fun k hk => ?_⟩⟩
  obtain rfl : k = 0 := by simpa using hk
  rw [show (⟨W.heap.size, 0, none⟩ : Addr).add 0 = ⟨W.heap.size, 0, none⟩ from rfl]
  simp
theorem c_far {W w8 : World} {g n : Nat} {xs : List ByteArray} {row : Option Nat} (h : Kd.C Kd.string W (some ⟨g, 0, none⟩) n xs) (hg : W.grownBy w8 row) (hne : some g ≠ row) : Kd.C Kd.string w8 (some ⟨g, 0, none⟩) n xs := by
  refine ⟨h.1, h.2.1, fun hn => ?_⟩
  obtain ⟨ad, e, hc⟩ := h.2.2 hn
  obtain rfl := Option.some.inj e
  refine ⟨_, rfl, fun j p hj => ?_⟩
  obtain ⟨cs, h1, h2, h3⟩ := hc j p hj
  exact ⟨cs, h1, h2, fun i u hu => hg.cell (h3 i u hu) (by rw [add_at]; exact hne)⟩
theorem texts_same (A0 : Option Addr) (c0 : Nat) (a : List ByteArray) (A1 : Option Addr) (c1 : Nat) (w : World) (h0 : Kd.C Kd.string w A0 a.length a) (hc0 : a.length ≤ c0) (h1 : Kd.C Kd.string w A1 a.length a) (hc1 : a.length ≤ c1) (ha : a.length ≤ 1000000000) :
    Calls Try.prog 30 #[.slice A0 a.length c0, .slice A1 a.length c1] w fun e w' => e = .returned (.bool true) ∧ ∃ n, w' = w.drewN n := by
  have := texts_any A0 c0 a A1 c1 a w h0 hc0 h1 hc1 ha
  rwa [show decide (a = a) = true from decide_eq_true rfl] at this
end Go.Proofs.Ytejfdiiennnjjaa.J
namespace Go.Proofs.Ytejfdiiennnjjaa.J
open Go.RowKit Go.Proofs Go.Proofs.Ytejfdiiennnjjaa Go.Proofs.YtejfdiiennnjjaaW.PrintWords Go.Proofs.YtejfdiiennnjjaaW.PrintLast Go.Proofs.YtejfdiiennnjjaaW.PrintMore Go.Proofs.Ytejfdiiennnjjaa.D
set_option linter.unusedVariables false
set_option linter.unusedSimpArgs false

/-- A cell of the commands, in a later world. -/
theorem cmd_cell {A : Option Addr} {l : List ByteArray} {w wr : World} (hC : Kd.C Kd.string w A l.length l) (hb : Below w.heap.size w wr) (i : Nat) (h : i < l.length) : ∃ ad, A = some ad ∧ wr.cell? (ad.add i) = some (.string l[i]) := by
  obtain ⟨ad, hA, hc⟩ := Kd.at_string (Kd.C_below hC hb) (i : Int) (by omega) (by omega)
  have e : rdOf ByteArray.empty l (i : Int) = l[i] := by
    unfold rdOf
    rw [Int.toNat_natCast, List.getD_eq_getElem?_getD, List.getElem?_eq_getElem h, Option.getD_some]
  rw [e, Int.toNat_natCast] at hc
  exact ⟨ad, hA, hc⟩
set_option maxRecDepth 100000 in
set_option maxHeartbeats 64000000 in
theorem Safe_any (A0 : Option Addr) (c0 : Nat) (l : List ByteArray) (A1 : Option Addr) (c1 : Nat) (tl : List Int) (A2 : Option Addr) (c2 : Nat) (bl : List Bl) (w : World)
    (hC : Kd.C Kd.string w A0 l.length l) (hs : ∀ s ∈ l, s.size ≤ 140737488351232) (hl : l.length ≤ 140737488351232) (hT : Kd.C (Kd.int .u8) w A1 tl.length tl) (htb : ∀ j, j < tl.length → 0 ≤ tl.getD j 0 ∧ tl.getD j 0 ≤ 255) (htl : tl.length ≤ 140737488351232)
    (hX : Blows A2 bl w) (hbw : ∀ j, j < bl.length → (bl.getD j default).Wf) (hbl : bl.length ≤ 140737488351232) :
    Calls Try.prog 16 #[.slice A0 l.length c0, .slice A1 tl.length c1, .slice A2 bl.length c2] w fun e w' => e = .returned (.bool true) ∧ Below w.heap.size w w' := by
  have zs := small_lay 1 0 ⟨#[]⟩ (Nat.zero_le _)
  have HC := Lib.hid hC
  have HT := Lib.hid hT
  have HX := Lib.hid hX
  have HBW := Lib.hid hbw
  have HTB := Lib.hid htb
  have HS := Lib.hid hs
  clear hC hT hX hbw htb hs
  go_enter Try.func16, Try.ntmps16
  go_wp2_with fail
  refine (D.New_any w).mono ?_; rintro e w2 ⟨rfl, h2, b2⟩
  go_wp2_with fail
  refine (jt_format w.heap.size ⟨#[]⟩ w2 h2 (Nat.zero_le _) (by omega)).mono ?_; rintro e w3 ⟨jb, rfl, j3, b3⟩
  have J3 := js_start (K := 0 < bl.length) j3
  have B3 := b2.trans b3
  clear b2 b3 h2 j3
  go_wp2_with fail
  go_loopg [8, 10, 11, 12] 30 (fun gk jv av kv iv wr => ∃ (i k jb : Nat) (F : Nat → Prop) (all : List ByteArray), gk + i = 30 ∧ i ≤ l.length ∧ iv = .int .i64 (i : Int) ∧ k ≤ bl.length ∧ kv = .int .i64 (k : Int) ∧ jv = .pointer (some ⟨jb, 0, none⟩) ∧ Js jb w.heap.size F all (i + 1) i (k < bl.length) w.heap.size wr ∧ Aside F w.heap.size av all wr ∧ Below w.heap.size w wr)
  case atStart => exact ⟨0, 0, jb, _, [], rfl, Nat.zero_le _, rfl, Nat.zero_le _, rfl, rfl, J3, Kd.R_nil _ _ _ _ _, B3⟩
  case round =>
    obtain ⟨i, k, jb, F, all, hgi, hil, rfl, hkb, rfl, rfl, J, r, B⟩ := hrel
    have hr2 := r
    unfold Aside at hr2
    obtain ⟨A9, c9, rfl⟩ := Kd.R_slice hr2
    clear hr2
    by_cases hgo : i < l.length ∧ i < 30
    · obtain ⟨hlt, h30⟩ := hgo
      obtain ⟨ad, rfl, hc⟩ := cmd_cell HC.out B i hlt
      have hci := HS.out _ (List.getElem_mem hlt)
      have HJ := Lib.hid J
      have Hr := Lib.hid r
      have HB := Lib.hid B
      clear J r B
      obtain ⟨c, hcd⟩ : ∃ c, c = l[i] := ⟨_, rfl⟩
      rw [← hcd] at hc hci
      have HCD := Lib.hid hcd
      clear hcd
      by_cases hbig : 4096 < c.size
      · as_aux_lemma =>
          go_wp2_with fail
          go_roundg (gk - 1)
          case measure => omega
          case rel => exact ⟨i + 1, k, jb, F, all, by omega, by omega, by go_num, hkb, rfl, rfl, (HJ.out.more (by omega) (by omega)), Hr.out, HB.out⟩
      · go_wp2_with fail
        refine (zero_any c _ (by omega)).mono ?_; rintro e w5 ⟨rfl, rfl⟩
        by_cases hz : zeroB c = true
        · as_aux_lemma =>
            rw [hz]
            go_wp2_with fail
            go_roundg (gk - 1)
            case measure => omega
            case rel => exact ⟨i + 1, k, jb, F, all, by omega, by omega, by go_num, hkb, rfl, rfl, (HJ.out.more (by omega) (by omega)), Hr.out, HB.out⟩
        · have hz' : zeroB c = false := by simpa using hz
          have hno := zero_no hz' (by omega)
          rw [hz']
          have HNO := Lib.hid hno
          clear hno hz hz' hbig
          go_upto_region 11 with fail
          go_cut [55] (fun v wx => v = .bool (decide (k < bl.length ∧ i % 4 = 3)) ∧ wx = w5)
          case first =>
            as_aux_lemma =>
              by_cases hk : k < bl.length
              · by_cases h4 : i % 4 = 3
                · have h4' : ((i : Int) % 4 == 3) = true := by rw [beq_iff_eq]; omega
                  go_wp2_with fail
                  go_meet
                  case rel => exact ⟨by rw [decide_eq_true (show k < bl.length ∧ i % 4 = 3 from ⟨hk, h4⟩)], rfl⟩
                · have h4' : ((i : Int) % 4 == 3) = false := by rw [beq_eq_false_iff_ne]; omega
                  go_wp2_with fail
                  go_meet
                  case rel => exact ⟨by rw [decide_eq_false (fun (c : k < bl.length ∧ i % 4 = 3) => h4 c.2)], rfl⟩
              · go_wp2_with fail
                go_meet
                case rel => exact ⟨by rw [decide_eq_false (fun (c : k < bl.length ∧ i % 4 = 3) => hk c.1)], rfl⟩
          case rest =>
            obtain ⟨rfl, rfl⟩ := hcut
            go_upto_if 55 with fail
            go_cut [] (fun wx => Go1 jb w.heap.size all all (i + 1) i (k < bl.length) w.heap.size (.slice A9 all.length c9) w wx)
            case first =>
              as_aux_lemma =>
                by_cases hb : k < bl.length ∧ i % 4 = 3
                · rw [decide_eq_true hb]
                  obtain ⟨hk, h4⟩ := hb
                  obtain ⟨ad2, rfl, hsp, z0, _, _, _, _⟩ := blow_of HX.out HB.out k hk
                  have hwf := HBW.out k hk
                  generalize bl.getD k default = x at *
                  have L := js_limit HJ.out hk x.lim hwf.1
                  have HL := HJ.out
                  go_wp2_with fail
                  refine L.mono ?_; rintro e w6 ⟨rfl, J6, T6⟩
                  have R6 := aside_tread Hr.out T6
                  have B6 := HB.out.trans (T6.toBelow (fun k hk => (HL.1 k hk).1) HL.le)
                  clear L HL T6 z0
                  go_wp2_with fail
                  go_meet
                  case rel => exact ⟨F, J6, R6, B6⟩
                · rw [decide_eq_false hb]
                  go_wp2_with fail
                  go_meet
                  case rel => exact ⟨F, HJ.out, Hr.out, HB.out⟩
            case rest =>
              obtain ⟨F5, J5, r5, B5⟩ := hcut
              have HJ5 := Lib.hid J5
              have Hr5 := Lib.hid r5
              have HB5 := Lib.hid B5
              clear HJ Hr HB J5 r5 B5
              go_upto_region 13 with fail
              go_cut [13] (fun v wx => (∃ tb : Bool, v = .bool tb) ∧ wx = wc)
              case first =>
                as_aux_lemma =>
                  by_cases ht : i < tl.length
                  · obtain ⟨ad1, rfl, hc1⟩ := Kd.at_int (Kd.C_below HT.out HB5.out) (i : Int) (by omega) (by omega)
                    have hx := HTB.out i ht
                    have ei : rd tl (i : Int) = tl.getD i 0 := by unfold rd; rw [Int.toNat_natCast]
                    rw [ei, Int.toNat_natCast] at hc1
                    generalize tl.getD i 0 = x at *
                    obtain ⟨hx0, hx1⟩ := hx
                    by_cases h3 : x % 3 = 0
                    · have h3' : (x % 3 == 0) = true := by rw [beq_iff_eq]; exact h3
                      go_wp2_with fail
                      go_meet
                      case rel => exact ⟨⟨_, rfl⟩, rfl⟩
                    · have h3' : (x % 3 == 0) = false := by rw [beq_eq_false_iff_ne]; exact h3
                      go_wp2_with fail
                      go_meet
                      case rel => exact ⟨⟨_, rfl⟩, rfl⟩
                  · go_wp2_with fail
                    go_meet
                    case rel => exact ⟨⟨_, rfl⟩, rfl⟩
              case rest =>
                obtain ⟨⟨tb, rfl⟩, rfl⟩ := hcut
                go_upto_if 75 with fail
                go_cut [14] (fun v wx => ∃ x : Int, v = .int .i64 x ∧ Mid jb w.heap.size all all (fun a => a = all) (i + 2) i (k < bl.length) w.heap.size (.slice A9 all.length c9) w x wx)
                case first =>
                  as_aux_lemma =>
                    cases tb with
                    | false =>
                      go_wp2_with fail
                      go_meet
                      case rel => exact ⟨0, rfl, .inl ⟨rfl, F5, HJ5.out.more (by omega) (Nat.le_refl _), Hr5.out, HB5.out⟩⟩
                    | true =>
                      have hnn := HJ5.out.nn
                      have hR := Kd.R_reads' (show Kd.R Kd.string 9 wc w.heap.size (fun b => ¬ F5 b) (.slice A9 all.length c9) all from Hr5.out)
                      have Jn := joined_any A9 c9 all wc hR.2.2 (by omega) hnn.2
                      have Tn := js_turn HJ5.out (by omega) (by omega)
                      clear hR
                      have HN := Lib.hid hnn
                      clear hnn
                      go_wp2_with fail
                      refine Jn.mono ?_; rintro e w6 ⟨rfl, rfl⟩
                      go_wp2_with fail
                      refine Tn.mono ?_; rintro e w7 hP
                      obtain ⟨x, rfl, hM⟩ := act_mid (fun k hk => (HJ5.out.1 k hk).1) HJ5.out.le Hr5.out HB5.out hP
                      clear hP Jn Tn
                      have HM := Lib.hid hM
                      clear hM
                      go_wp2_with fail
                      go_meet
                      case rel => exact ⟨x, rfl, HM.out⟩
                case rest =>
                  obtain ⟨x, rfl, hM⟩ := hcut
                  have HM := Lib.hid hM
                  clear hM HJ5 Hr5 HB5
                  go_upto_if 81 with fail
                  go_cut [14] (fun v wx => ∃ x : Int, v = .int .i64 x ∧ Mid jb w.heap.size (all ++ [c]) all (fun a => a = all ∨ a = all ++ [c]) (i + 2) (i + 1) (k < bl.length) w.heap.size (.slice A9 all.length c9) w x wx)
                  case first =>
                    as_aux_lemma =>
                      rcases HM.out with ⟨rfl, F6, J6, r6, B6⟩ | ⟨rfl, hK, d6, D6, e6, r6, B6⟩
                      · obtain ⟨ad3, hA3, hc3⟩ := cmd_cell HC.out B6 i hlt
                        obtain rfl := Option.some.inj hA3
                        rw [← HCD.out] at hc3
                        have An := js_add J6 (by omega) (by omega) c HNO.out
                        have HJ6 := Lib.hid J6
                        have Hr6 := Lib.hid r6
                        have HB6 := Lib.hid B6
                        clear J6 r6 B6 HM
                        go_wp2_with fail
                        refine An.mono ?_; rintro e w7 hP
                        obtain ⟨x, rfl, hM⟩ := act_mid (fun k hk => (HJ6.out.1 k hk).1) HJ6.out.le Hr6.out HB6.out hP
                        clear hP An
                        have HM := Lib.hid hM
                        clear hM
                        go_wp2_with fail
                        go_meet
                        case rel => exact ⟨x, rfl, HM.out⟩
                      · go_wp2_with fail
                        go_meet
                        case rel => exact ⟨13, rfl, .inr ⟨rfl, hK, d6, D6, (e6.more fun a ha => .inl ha).up (Nat.le_refl _) (by omega), r6, B6⟩⟩
                  case rest =>
                    obtain ⟨x, rfl, hM⟩ := hcut
                    clear HM
                    rcases hM with ⟨rfl, F6, J6, r6, B6⟩ | ⟨rfl, hK, d6, D6, e6, r6, B6⟩
                    · as_aux_lemma =>
                        obtain ⟨ad3, hA3, hc3⟩ := cmd_cell HC.out B6 i hlt
                        obtain rfl := Option.some.inj hA3
                        rw [← HCD.out] at hc3
                        have hnn := J6.nn.1
                        have hal : all.length ≤ 40 := by simp at hnn; omega
                        have hF6 := Lib.hid (fun b hb => J6.1 b hb : ∀ b, F6 b → w.heap.size ≤ b ∧ b < wc.heap.size)
                        have HJ6 := Lib.hid J6
                        have Hr6 := Lib.hid r6
                        have HB6 := Lib.hid B6
                        clear J6 r6 B6 hnn
                        go_wp2_with (first
                          | ((with_reducible refine gate_builtin (b := .append) (xs := #[.tmp 90, .tmp 95]) rfl ?_); at_builtin
                             refine Kd.R_append Kd.string (w0 := w) w.heap.size rfl (.tmp 90) (.tmp 95) 32 9 (.string ⟨#[]⟩) 16 rfl Try.underlying32 info9 rfl (by decide) (by omega) (.slice A9 all.length c9) all c [.string c] (fun b => ¬ F6 b) (fun _ => False) rfl rfl ?aP (fun _ hk => hk.elim) ?aF ?aO ?aB ?aS ?aL ?_
                             (case aP => exact rfl)
                             (case aB => exact HB6.out)
                             (case aF => exact (fun b hb c => by have := hF6.out b c; omega))
                             (case aO => exact Hr6.out)
                             (case aS => exact HB6.out.size)
                             (case aL => omega)
                             intro v10 w10 ho hb hg hat
                             have J10 := HJ6.out.step hg.size (fun b hb hl => hg.block b hl (fun c => Hr6.out.1 b c.symm hb))
                             have N1 := Lib.hid ho
                             have N2 := Lib.hid hb
                             have N3 := Lib.hid J10
                             clear ho hb hg hat J10))
                        go_roundg (gk - 1)
                        case measure => omega
                        case rel => exact ⟨i + 1, k, jb, F6, all ++ [c], by omega, by omega, by go_num, hkb, rfl, rfl, N3.out, N1.out, N2.out⟩
                    · as_aux_lemma =>
                        obtain ⟨ad2, rfl, hsp, z0, z1, z2, z3, z4⟩ := blow_of HX.out B6 k hK
                        generalize bl.getD k default = x at *
                        have Cn := de_crash D6 e6 x.k0 x.k1 x.k2 x.k3
                        have Hr6 := Lib.hid r6
                        have HB6 := Lib.hid B6
                        clear r6 B6 D6 e6
                        go_wp2_with fail
                        refine Cn.mono ?_; rintro e w7 ⟨rfl, a', d7, hP, hCl, T7⟩
                        have r7 := aside_tread (F' := fun b => b = w.heap.size) Hr6.out (Tread.of_turn T7 rfl (fun _ h => .inl h))
                        have B7 := HB6.out.trans (T7.below _ (Nat.le_refl _))
                        have D7 := T7.is
                        clear Cn T7 z0 z1 z2 z3 z4 hc
                        have HP := Lib.hid hP
                        clear hP
                        go_upto_block 2 with fail
                        go_cut [11] (fun kv wx => ∃ k2 : Nat, k2 ≤ bl.length ∧ kv = .int .i64 (k2 : Int) ∧ ∃ d, D.Is w.heap.size d wx ∧ Cl d a' (i + 2) (i + 1) ∧ Aside (fun b => b = w.heap.size) w.heap.size (.slice A9 all.length c9) all wx ∧ Below w.heap.size w wx)
                        case first =>
                          as_aux_lemma =>
                            have HC7 := Lib.hid hCl
                            have HD7 := Lib.hid D7
                            have Hr7 := Lib.hid r7
                            have HB7 := Lib.hid B7
                            clear hCl D7 r7 B7
                            go_wp2_with fail
                            go_loopg [11] (bl.length - (k + 1)) (fun gk2 kv wr => ∃ k2 : Nat, gk2 + k2 = bl.length ∧ kv = .int .i64 (k2 : Int) ∧ ∃ d, D.Is w.heap.size d wr ∧ Cl d a' (i + 2) (i + 1) ∧ Aside (fun b => b = w.heap.size) w.heap.size (.slice A9 all.length c9) all wr ∧ Below w.heap.size w wr)
                            case atStart => exact ⟨k + 1, by omega, by go_num, d7, HD7.out, HC7.out, Hr7.out, HB7.out⟩
                            case round =>
                              obtain ⟨k2, hk2, rfl, d8, D8, hCl8, r8, B8⟩ := hrel
                              by_cases hlt2 : k2 < bl.length
                              · obtain ⟨ad3, hA3, hsp3, y0, y1, y2, y3, y4⟩ := blow_of HX.out B8 k2 hlt2
                                obtain rfl := Option.some.inj hA3
                                have HX3 := fun (wr : World) (hb : Below w.heap.size w wr) => blow_of HX.out hb k2 hlt2
                                generalize bl.getD k2 default = x3 at *
                                by_cases h5 : Int.tmod x3.lim 5 = 0
                                · as_aux_lemma =>
                                    have h5' : (Int.tmod x3.lim 5 == 0) = true := by rw [beq_iff_eq]; exact h5
                                    have L8 := D.Limit_any w.heap.size d8 1 _ D8
                                    have Hr8 := Lib.hid r8
                                    have HB8 := Lib.hid B8
                                    have HCl8 := Lib.hid hCl8
                                    have HX4 := Lib.hid HX3
                                    clear r8 B8 hCl8 D8 y1 y2 y3 y4 HX3
                                    go_wp2_with fail
                                    refine L8.mono ?_; rintro e w9 ⟨rfl, T9⟩
                                    have r9 := aside_tread (F' := fun b => b = w.heap.size) Hr8.out (Tread.of_turn T9 rfl (fun _ h => .inl h))
                                    have B9 := HB8.out.trans (T9.below _ (Nat.le_refl _))
                                    have D9 := T9.is
                                    have Hr9 := Lib.hid r9
                                    have HB9 := Lib.hid B9
                                    have HD9 := Lib.hid D9
                                    clear L8 T9 y0 r9 B9 D9
                                    go_wp2_with fail
                                    refine (cl_open1 HD9.out HCl8.out (by omega) (by omega)).mono ?_; rintro e w10 ⟨v1, v2, d10, rfl, e10, T10⟩
                                    have r10 := aside_tread (F' := fun b => b = w.heap.size) Hr9.out (Tread.of_turn T10 rfl (fun _ h => .inl h))
                                    have B10 := HB9.out.trans (T10.below _ (Nat.le_refl _))
                                    have D10 := T10.is
                                    obtain ⟨ad4, hA4, hsp4, y0, y1, y2, y3, y4⟩ := HX4.out _ B10
                                    obtain rfl := Option.some.inj hA4
                                    have Hr10 := Lib.hid r10
                                    have HB10 := Lib.hid B10
                                    have C10 := de_crash D10 e10 x3.k0 x3.k1 x3.k2 x3.k3
                                    clear T10 r10 B10 D10 e10
                                    go_wp2_with fail
                                    refine C10.mono ?_; rintro e w11 ⟨rfl, a11, d11, rfl, hCl11, T11⟩
                                    have r11 := aside_tread (F' := fun b => b = w.heap.size) Hr10.out (Tread.of_turn T11 rfl (fun _ h => .inl h))
                                    have B11 := HB10.out.trans (T11.below _ (Nat.le_refl _))
                                    have D11 := T11.is
                                    have Hr11 := Lib.hid r11
                                    have HB11 := Lib.hid B11
                                    have HD11 := Lib.hid D11
                                    have HCl11 := Lib.hid hCl11
                                    clear C10 T11 r11 B11 D11 hCl11 y0 y1 y2 y3 y4
                                    go_wp2_with fail
                                    go_roundg (gk - 1)
                                    case measure => omega
                                    case rel => exact ⟨k2 + 1, by omega, by go_num, d11, HD11.out, HCl11.out, Hr11.out, HB11.out⟩
                                · have h5' : (Int.tmod x3.lim 5 == 0) = false := by rw [beq_eq_false_iff_ne]; exact h5
                                  go_wp2_with fail
                                  go_meet
                                  case rel => exact ⟨k2, by omega, rfl, d8, D8, hCl8, r8, B8⟩
                              · go_wp2_with fail
                                go_meet
                                case rel => exact ⟨k2, by omega, rfl, d8, D8, hCl8, r8, B8⟩
                        case rest =>
                          obtain ⟨k2, hk2, rfl, d8, D8, hCl8, r8, B8⟩ := hcut
                          have O8 := cl_open (K := k2 < bl.length) w.heap.size (Nat.le_refl _) D8 hCl8 (by omega) (by omega)
                          have Hr8 := Lib.hid r8
                          have HB8 := Lib.hid B8
                          have hw8 := lt_of_block D8
                          clear hCl D7 r7 B7 D8 hCl8 r8 B8
                          go_wp2_with fail
                          refine O8.mono ?_; rintro e w9 ⟨jb9, rfl, J9, T9⟩
                          have r9 := aside_tread Hr8.out T9
                          have B9 := HB8.out.trans (T9.toBelow (fun k hk => Nat.le_of_eq hk.symm) (Nat.le_of_lt hw8))
                          clear O8 T9
                          generalize grow (fun k => k = w.heap.size) wc w9 = F9 at *
                          have HF9 := Lib.hid J9.1
                          have Hr9 := Lib.hid r9
                          have HB9 := Lib.hid B9
                          have HJ9 := Lib.hid J9
                          clear r9 B9 J9 hw8
                          go_wp2_with fail
                          refine (js_told HJ9.out (by omega)).mono ?_; rintro e w10 ⟨v10, rfl, r10, b10⟩
                          obtain ⟨A10, c10, rfl⟩ := Kd.R_slice r10
                          have r9 := Kd.R_below (show Kd.R Kd.string 9 w9 w.heap.size (fun b => ¬ F9 b) (.slice A9 all.length c9) all from Hr9.out) b10
                          have q9 := Kd.R_reads' r9
                          have q10 := Kd.R_reads' r10
                          have hla := (HJ9.out.nn).1
                          have X1 := texts_any A10 c10 a' A9 c9 all w10.drew (Kd.C_below q10.2.2 (Below.refl _ _).drew) q10.2.1 (Kd.C_below q9.2.2 (Below.refl _ _).drew) q9.2.1 (by omega)
                          have HJ10 := Lib.hid (HJ9.out.later b10)
                          have HB10 := Lib.hid (HB9.out.trans (b10.mono HB9.out.size))
                          have HR10 := Lib.hid (Kd.R_mono (ok' := fun b => ¬ F9 b) (Kd.R_lower (Kd.R_bound r10) (HB9.out.size)) (fun b hb c => by have := HF9.out b c; have := hb.2.1; omega))
                          have Hq9 := Lib.hid q9
                          have Hq10 := Lib.hid q10
                          clear r10 b10 r9 q9 q10
                          go_upto_region 34 with fail
                          go_cut [162] (fun v wx => v = .bool false ∧ Below w10.heap.size w10 wx)
                          case first =>
                            as_aux_lemma =>
                              -- DEV
                              have hlb := hla
                              have hal : all.length ≤ 40 := by
                                rcases HP.out with h | h <;> rw [h] at hla <;> (try rw [List.length_append] at hla) <;> omega
                              have HC9 := Lib.hid (fun W (hb : Below w10.heap.size w10 W) => Kd.C_below Hq9.out.2.2 hb)
                              have XX := fun W (hb : Below w10.heap.size w10 W) A14 c14 hC hc => texts_same A10 c10 a' A14 c14 W (Kd.C_below Hq10.out.2.2 hb) Hq10.out.2.1 hC hc (by omega)
                              have HS0 := Lib.hid (fun W (hb : Below w10.heap.size w10 W) => by
                                obtain ⟨ad3, hA3, hc3⟩ := cmd_cell HC.out (HB10.out.trans (hb.mono HB10.out.size)) i hlt
                                obtain rfl := Option.some.inj hA3
                                rw [← HCD.out] at hc3
                                exact hc3 : ∀ W, Below w10.heap.size w10 W → W.cell? (ad.add i) = some (.string c))
                              by_cases ha : a' = all
                              · as_aux_lemma =>
                                  rw [decide_eq_true ha] at X1
                                  clear ha hla hlb XX
                                  refine start_ (n := 18) (S := fun w' => True) (ds := []) #[false, false, false, false, false, false, false, false, false, false, false, false, false, false, false, false, false, false] (by kernel_rfl) rfl rfl trivial (fun hHeld => ?_)
                                  refine pure_ (i := 0) (N := some 145) (v := ?_) (a' := ?_) #[true, false, false, false, false, false, false, false, false, false, false, false, false, false, false, false, false, false] rfl rfl (by kernel_rfl) (fun _ _ _ h => h) (Or.inl ⟨by rfl, ?_⟩) ?_ ?_
                                  rotate_left
                                  · intro w'
                                    go_simp
                                    with_reducible rfl
                                  rotate_left
                                  · simp only [Act.put, List.setIfInBounds_toArray, List.set_cons_zero, List.set_cons_succ, i64_w, i32_w]
                                    rfl
                                  refine pure_ (i := 1) (N := some 146) (v := ?_) (a' := ?_) #[true, true, false, false, false, false, false, false, false, false, false, false, false, false, false, false, false, false] rfl rfl (by kernel_rfl) (fun _ _ _ h => h) (Or.inl ⟨by rfl, ?_⟩) ?_ ?_
                                  rotate_left
                                  · intro w'
                                    go_simp
                                    with_reducible rfl
                                  rotate_left
                                  · simp only [Act.put, List.setIfInBounds_toArray, List.set_cons_zero, List.set_cons_succ, i64_w, i32_w]
                                    rfl
                                  refine one_ (i := 2) (N := some 147) #[true, true, true, false, false, false, false, false, false, false, false, false, false, false, false, false, false, false] rfl rfl (by kernel_rfl) (by decide) (fun K hK => ?_)
                                  refine goes_ Try.func30 (by kernel_rfl) rfl #[.slice A10 a'.length c10, .slice A9 all.length c9] (by rfl) rfl rfl (by simp only [List.map_toArray, List.map_cons, List.map_nil]; rfl) ?_
                                  with_reducible refine (X1).mono ?_
                                  rintro e w11 ⟨rfl, n11, hw11⟩
                                  refine ⟨_, rfl, ?_⟩
                                  have b11 : Below w10.heap.size w10 w11 := by rw [hw11]; exact ((Below.refl _ _).drew).trans (drewB _ _ _)
                                  clear hw11
                                  refine hK.out _ _ trivial (fun hHeld => ?_)
                                  clear hK K
                                  refine norm_ (a' := ?_) ?_ ?_
                                  rotate_left
                                  · show Act.put _ (some 147) _ = _
                                    simp only [Act.put, List.setIfInBounds_toArray, List.set_cons_zero, List.set_cons_succ, i64_w, i32_w]
                                    rfl
                                  refine pure_ (i := 3) (N := some 148) (v := ?_) (a' := ?_) #[true, true, true, true, false, false, false, false, false, false, false, false, false, false, false, false, false, false] rfl rfl (by kernel_rfl) (fun _ _ _ h => h) (Or.inl ⟨by rfl, ?_⟩) ?_ ?_
                                  rotate_left
                                  · intro w'
                                    go_simp
                                    with_reducible rfl
                                  rotate_left
                                  · simp only [Act.put, List.setIfInBounds_toArray, List.set_cons_zero, List.set_cons_succ, i64_w, i32_w]
                                    rfl
                                  refine pure_ (i := 4) (N := some 149) (v := ?_) (a' := ?_) #[true, true, true, true, true, false, false, false, false, false, false, false, false, false, false, false, false, false] rfl rfl (by kernel_rfl) (fun _ _ _ h => h) (Or.inl ⟨by rfl, ?_⟩) ?_ ?_
                                  rotate_left
                                  · intro w'
                                    go_simp
                                    with_reducible rfl
                                  rotate_left
                                  · simp only [Act.put, List.setIfInBounds_toArray, List.set_cons_zero, List.set_cons_succ, i64_w, i32_w]
                                    rfl
                                  refine pure_ (i := 5) (N := some 150) (v := undef) (a' := ?_) #[true, true, true, true, true, true, false, false, false, false, false, false, false, false, false, false, false, false] rfl rfl (by kernel_rfl) (fun _ _ _ h => h) (Or.inr ⟨by rfl, rfl⟩) ?_ ?_
                                  rotate_left
                                  · simp only [Act.put, List.setIfInBounds_toArray, List.set_cons_zero, List.set_cons_succ, i64_w, i32_w]
                                    rfl
                                  refine pure_ (i := 6) (N := some 151) (v := undef) (a' := ?_) #[true, true, true, true, true, true, true, false, false, false, false, false, false, false, false, false, false, false] rfl rfl (by kernel_rfl) (fun _ _ _ h => h) (Or.inr ⟨by rfl, rfl⟩) ?_ ?_
                                  rotate_left
                                  · simp only [Act.put, List.setIfInBounds_toArray, List.set_cons_zero, List.set_cons_succ, i64_w, i32_w]
                                    rfl
                                  refine pure_ (i := 7) (N := some 152) (v := undef) (a' := ?_) #[true, true, true, true, true, true, true, true, false, false, false, false, false, false, false, false, false, false] rfl rfl (by kernel_rfl) (fun _ _ _ h => h) (Or.inr ⟨by rfl, rfl⟩) ?_ ?_
                                  rotate_left
                                  · simp only [Act.put, List.setIfInBounds_toArray, List.set_cons_zero, List.set_cons_succ, i64_w, i32_w]
                                    rfl
                                  refine pure_ (i := 8) (N := some 153) (v := undef) (a' := ?_) #[true, true, true, true, true, true, true, true, true, false, false, false, false, false, false, false, false, false] rfl rfl (by kernel_rfl) (fun _ _ _ h => h) (Or.inr ⟨by rfl, rfl⟩) ?_ ?_
                                  rotate_left
                                  · simp only [Act.put, List.setIfInBounds_toArray, List.set_cons_zero, List.set_cons_succ, i64_w, i32_w]
                                    rfl
                                  refine pure_ (i := 9) (N := some 154) (v := undef) (a' := ?_) #[true, true, true, true, true, true, true, true, true, true, false, false, false, false, false, false, false, false] rfl rfl (by kernel_rfl) (fun _ _ _ h => h) (Or.inr ⟨by rfl, rfl⟩) ?_ ?_
                                  rotate_left
                                  · simp only [Act.put, List.setIfInBounds_toArray, List.set_cons_zero, List.set_cons_succ, i64_w, i32_w]
                                    rfl
                                  refine pure_ (i := 10) (N := some 155) (v := undef) (a' := ?_) #[true, true, true, true, true, true, true, true, true, true, true, false, false, false, false, false, false, false] rfl rfl (by kernel_rfl) (fun _ _ _ h => h) (Or.inr ⟨by rfl, rfl⟩) ?_ ?_
                                  rotate_left
                                  · simp only [Act.put, List.setIfInBounds_toArray, List.set_cons_zero, List.set_cons_succ, i64_w, i32_w]
                                    rfl
                                  refine pure_ (i := 11) (N := some 156) (v := undef) (a' := ?_) #[true, true, true, true, true, true, true, true, true, true, true, true, false, false, false, false, false, false] rfl rfl (by kernel_rfl) (fun _ _ _ h => h) (Or.inr ⟨by rfl, rfl⟩) ?_ ?_
                                  rotate_left
                                  · simp only [Act.put, List.setIfInBounds_toArray, List.set_cons_zero, List.set_cons_succ, i64_w, i32_w]
                                    rfl
                                  refine pure_ (i := 12) (N := some 157) (v := undef) (a' := ?_) #[true, true, true, true, true, true, true, true, true, true, true, true, true, false, false, false, false, false] rfl rfl (by kernel_rfl) (fun _ _ _ h => h) (Or.inr ⟨by rfl, rfl⟩) ?_ ?_
                                  rotate_left
                                  · simp only [Act.put, List.setIfInBounds_toArray, List.set_cons_zero, List.set_cons_succ, i64_w, i32_w]
                                    rfl
                                  refine pure_ (i := 13) (N := some 158) (v := undef) (a' := ?_) #[true, true, true, true, true, true, true, true, true, true, true, true, true, true, false, false, false, false] rfl rfl (by kernel_rfl) (fun _ _ _ h => h) (Or.inr ⟨by rfl, rfl⟩) ?_ ?_
                                  rotate_left
                                  · simp only [Act.put, List.setIfInBounds_toArray, List.set_cons_zero, List.set_cons_succ, i64_w, i32_w]
                                    rfl
                                  refine pure_ (i := 14) (N := some 159) (v := undef) (a' := ?_) #[true, true, true, true, true, true, true, true, true, true, true, true, true, true, true, false, false, false] rfl rfl (by kernel_rfl) (fun _ _ _ h => h) (Or.inr ⟨by rfl, rfl⟩) ?_ ?_
                                  rotate_left
                                  · simp only [Act.put, List.setIfInBounds_toArray, List.set_cons_zero, List.set_cons_succ, i64_w, i32_w]
                                    rfl
                                  refine pure_ (i := 15) (N := some 160) (v := undef) (a' := ?_) #[true, true, true, true, true, true, true, true, true, true, true, true, true, true, true, true, false, false] rfl rfl (by kernel_rfl) (fun _ _ _ h => h) (Or.inr ⟨by rfl, rfl⟩) ?_ ?_
                                  rotate_left
                                  · simp only [Act.put, List.setIfInBounds_toArray, List.set_cons_zero, List.set_cons_succ, i64_w, i32_w]
                                    rfl
                                  refine pure_ (i := 16) (N := some 161) (v := undef) (a' := ?_) #[true, true, true, true, true, true, true, true, true, true, true, true, true, true, true, true, true, false] rfl rfl (by kernel_rfl) (fun _ _ _ h => h) (Or.inr ⟨by rfl, rfl⟩) ?_ ?_
                                  rotate_left
                                  · simp only [Act.put, List.setIfInBounds_toArray, List.set_cons_zero, List.set_cons_succ, i64_w, i32_w]
                                    rfl
                                  refine pure_ (i := 17) (N := some 162) (v := ?_) (a' := ?_) #[true, true, true, true, true, true, true, true, true, true, true, true, true, true, true, true, true, true] rfl rfl (by kernel_rfl) (fun _ _ _ h => h) (Or.inl ⟨by rfl, ?_⟩) ?_ ?_
                                  rotate_left
                                  · intro w'
                                    go_simp
                                    with_reducible rfl
                                  rotate_left
                                  · simp only [Act.put, List.setIfInBounds_toArray, List.set_cons_zero, List.set_cons_succ, i64_w, i32_w]
                                    rfl
                                  refine done_ (by kernel_rfl) ?_
                                  go_wp2_with fail
                                  go_meet
                                  case rel => exact ⟨rfl, b11⟩
                              · as_aux_lemma =>
                                  rw [decide_eq_false ha] at X1
                                  have HA := Lib.hid (HP.out.resolve_left ha)
                                  clear ha hla hlb
                                  refine start_ (n := 18) (S := fun w' => w'.cell? (ad.add i) = some (.string c)) (ds := []) #[false, false, false, false, false, false, false, false, false, false, false, false, false, false, false, false, false, false] (by kernel_rfl) rfl rfl ((HS0.out _ (Below.refl _ _).drew)) (fun hHeld => ?_)
                                  refine pure_ (i := 0) (N := some 145) (v := ?_) (a' := ?_) #[true, false, false, false, false, false, false, false, false, false, false, false, false, false, false, false, false, false] rfl rfl (by kernel_rfl) (fun _ _ _ h => h) (Or.inl ⟨by rfl, ?_⟩) ?_ ?_
                                  rotate_left
                                  · intro w'
                                    go_simp
                                    with_reducible rfl
                                  rotate_left
                                  · simp only [Act.put, List.setIfInBounds_toArray, List.set_cons_zero, List.set_cons_succ, i64_w, i32_w]
                                    rfl
                                  refine pure_ (i := 1) (N := some 146) (v := ?_) (a' := ?_) #[true, true, false, false, false, false, false, false, false, false, false, false, false, false, false, false, false, false] rfl rfl (by kernel_rfl) (fun _ _ _ h => h) (Or.inl ⟨by rfl, ?_⟩) ?_ ?_
                                  rotate_left
                                  · intro w'
                                    go_simp
                                    with_reducible rfl
                                  rotate_left
                                  · simp only [Act.put, List.setIfInBounds_toArray, List.set_cons_zero, List.set_cons_succ, i64_w, i32_w]
                                    rfl
                                  refine one_ (i := 2) (N := some 147) #[true, true, true, false, false, false, false, false, false, false, false, false, false, false, false, false, false, false] rfl rfl (by kernel_rfl) (by decide) (fun K hK => ?_)
                                  refine goes_ Try.func30 (by kernel_rfl) rfl #[.slice A10 a'.length c10, .slice A9 all.length c9] (by rfl) rfl rfl (by simp only [List.map_toArray, List.map_cons, List.map_nil]; rfl) ?_
                                  with_reducible refine (X1).mono ?_
                                  rintro e w11 ⟨rfl, n11, hw11⟩
                                  refine ⟨_, rfl, ?_⟩
                                  have bC : Below w10.heap.size w10 w11 := by rw [hw11]; exact ((Below.refl _ _).drew).trans (drewB _ _ _)
                                  clear hw11
                                  refine hK.out _ _ ((HS0.out _ bC)) (fun hHeld => ?_)
                                  clear hK K
                                  refine norm_ (a' := ?_) ?_ ?_
                                  rotate_left
                                  · show Act.put _ (some 147) _ = _
                                    simp only [Act.put, List.setIfInBounds_toArray, List.set_cons_zero, List.set_cons_succ, i64_w, i32_w]
                                    rfl
                                  refine pure_ (i := 3) (N := some 148) (v := ?_) (a' := ?_) #[true, true, true, true, false, false, false, false, false, false, false, false, false, false, false, false, false, false] rfl rfl (by kernel_rfl) (fun _ _ _ h => h) (Or.inl ⟨by rfl, ?_⟩) ?_ ?_
                                  rotate_left
                                  · intro w'
                                    go_simp
                                    with_reducible rfl
                                  rotate_left
                                  · simp only [Act.put, List.setIfInBounds_toArray, List.set_cons_zero, List.set_cons_succ, i64_w, i32_w]
                                    rfl
                                  refine pure_ (i := 4) (N := some 149) (v := ?_) (a' := ?_) #[true, true, true, true, true, false, false, false, false, false, false, false, false, false, false, false, false, false] rfl rfl (by kernel_rfl) (fun _ _ _ h => h) (Or.inl ⟨by rfl, ?_⟩) ?_ ?_
                                  rotate_left
                                  · intro w'
                                    go_simp
                                    with_reducible rfl
                                  rotate_left
                                  · simp only [Act.put, List.setIfInBounds_toArray, List.set_cons_zero, List.set_cons_succ, i64_w, i32_w]
                                    rfl
                                  refine pure_ (i := 5) (N := some 150) (v := ?_) (a' := ?_) #[true, true, true, true, true, true, false, false, false, false, false, false, false, false, false, false, false, false] rfl rfl (by kernel_rfl) (fun _ _ _ h => h) (Or.inl ⟨by rfl, ?_⟩) ?_ ?_
                                  rotate_left
                                  · intro w'
                                    go_simp
                                    with_reducible rfl
                                  rotate_left
                                  · simp only [Act.put, List.setIfInBounds_toArray, List.set_cons_zero, List.set_cons_succ, i64_w, i32_w]
                                    rfl
                                  refine pure_ (i := 7) (N := some 152) (v := ?_) (a' := ?_) #[true, true, true, true, true, true, false, true, false, false, false, false, false, false, false, false, false, false] rfl rfl (by kernel_rfl) (fun _ _ _ h => h) (Or.inl ⟨by rfl, ?_⟩) ?_ ?_
                                  rotate_left
                                  · intro w'
                                    go_simp
                                    with_reducible rfl
                                  rotate_left
                                  · simp only [Act.put, List.setIfInBounds_toArray, List.set_cons_zero, List.set_cons_succ, i64_w, i32_w]
                                    rfl
                                  refine pure_ (i := 9) (N := some 154) (v := ?_) (a' := ?_) #[true, true, true, true, true, true, false, true, false, true, false, false, false, false, false, false, false, false] rfl rfl (by kernel_rfl) (fun _ _ _ h => h) (Or.inl ⟨by rfl, ?_⟩) ?_ ?_
                                  rotate_left
                                  · intro w'
                                    go_simp
                                    with_reducible rfl
                                  rotate_left
                                  · simp only [Act.put, List.setIfInBounds_toArray, List.set_cons_zero, List.set_cons_succ, i64_w, i32_w]
                                    rfl
                                  refine pure_ (i := 10) (N := some 155) (v := ?_) (a' := ?_) #[true, true, true, true, true, true, false, true, false, true, true, false, false, false, false, false, false, false] rfl rfl (by kernel_rfl) (fun _ _ _ h => h) (Or.inl ⟨by rfl, ?_⟩) ?_ ?_
                                  rotate_left
                                  · intro w'
                                    go_simp
                                    with_reducible rfl
                                  rotate_left
                                  · simp only [Act.put, List.setIfInBounds_toArray, List.set_cons_zero, List.set_cons_succ, i64_w, i32_w]
                                    rfl
                                  refine pure_ (i := 11) (N := some 156) (v := ?_) (a' := ?_) #[true, true, true, true, true, true, false, true, false, true, true, true, false, false, false, false, false, false] rfl rfl (by kernel_rfl) (fun _ _ _ h => h) (Or.inl ⟨by rfl, ?_⟩) ?_ ?_
                                  rotate_left
                                  · intro w'
                                    go_simp
                                    with_reducible rfl
                                  rotate_left
                                  · simp only [Act.put, List.setIfInBounds_toArray, List.set_cons_zero, List.set_cons_succ, i64_w, i32_w]
                                    rfl
                                  refine take_ (i := 12) (N := some 157) (v := ?_) (a' := ?_) #[true, true, true, true, true, true, false, true, false, true, true, true, true, false, false, false, false, false] rfl rfl (by kernel_rfl) (fun _ _ _ h => h) (Or.inl ⟨by rfl, ?_⟩) hHeld ?_ ?_
                                  rotate_left
                                  · intro w' s0
                                    go_simp
                                    with_reducible rfl
                                  rotate_left
                                  · simp only [Act.put, List.setIfInBounds_toArray, List.set_cons_zero, List.set_cons_succ, i64_w, i32_w]
                                    rfl
                                  refine join_ (σ := Value × Value × Value) 4 #[true, true, true, true, true, true, true, true, true, true, true, true, true, true, false, false, false, false] (fun s => [(151, s.1), (153, s.2.1), (158, s.2.2)]) (fun s w' => Kd.R Kd.string 9 w' w10.heap.size (fun _ => True) s.2.1 all ∧ (∃ A c1, s.2.2 = .slice A 1 c1 ∧ Kd.C Kd.string w' A 1 [c]) ∧ Below w10.heap.size w10 w' ∧ w'.cell? (ad.add i) = some (.string c)) ?_ ?_
                                  rotate_left
                                  · intro hCont
                                    refine two_ (i := 6) (j := 13) (Ni := some 151) (Nj := some 158) #[true, true, true, true, true, true, true, true, false, true, true, true, true, false, false, false, false, false] #[true, true, true, true, true, true, false, true, false, true, true, true, true, true, false, false, false, false] rfl rfl rfl rfl (by kernel_rfl) (by decide) (by decide) (fun K hK => ?_) (fun K hK => ?_)
                                    · skip
                                      refine value_ (w1 := ?_) (v := ?_) (by rfl) rfl ?_ ?_
                                      rotate_left 2
                                      · go_simp
                                        constructor
                                        · rfl
                                        · rfl
                                      have q6 := row0 _ _ bC.size
                                      replace bC := bC.alloc bC.size (.cells #[] 9)
                                      refine hK.out _ _ ((HS0.out _ bC)) (fun hHeld => ?_)
                                      clear hK K
                                      refine norm_ (a' := ?_) ?_ ?_
                                      rotate_left
                                      · show Act.put _ (some 151) _ = _
                                        simp only [Act.put, List.setIfInBounds_toArray, List.set_cons_zero, List.set_cons_succ, i64_w, i32_w]
                                        rfl
                                      refine two_ (i := 8) (j := 13) (Ni := some 153) (Nj := some 158) #[true, true, true, true, true, true, true, true, true, true, true, true, true, false, false, false, false, false] #[true, true, true, true, true, true, true, true, false, true, true, true, true, true, false, false, false, false] rfl rfl rfl rfl (by kernel_rfl) (by decide) (by decide) (fun K hK => ?_) (fun K hK => ?_)
                                      · skip
                                        refine Kd.R_append_rows_step Kd.string (w0 := w10) w10.heap.size (by rfl) (.tmp 151) (.tmp 152) 32 9 (.string ⟨#[]⟩) 16 rfl Try.underlying32 info9 rfl (by decide) (by omega) (.slice (some ⟨w11.heap.size, 0, none⟩) 0 0) [] all A9 all.length c9 (fun _ => True) (fun _ => False) rfl rfl q6 (HC9.out _ bC) (fun _ _ h => h) (fun _ h => h.elim) (fun _ _ => trivial) bC bC.size (by simp; omega) ?_
                                        intro v8 w8 ho hb8 hg8 hat8
                                        rw [List.nil_append] at ho
                                        have bC := hb8
                                        clear hb8 hg8 hat8 q6
                                        refine hK.out _ _ ((HS0.out _ bC)) (fun hHeld => ?_)
                                        clear hK K
                                        refine norm_ (a' := ?_) ?_ ?_
                                        rotate_left
                                        · show Act.put _ (some 153) _ = _
                                          simp only [Act.put, List.setIfInBounds_toArray, List.set_cons_zero, List.set_cons_succ, i64_w, i32_w]
                                          rfl
                                        refine one_ (i := 13) (N := some 158) #[true, true, true, true, true, true, true, true, true, true, true, true, true, true, false, false, false, false] rfl rfl (by kernel_rfl) (by decide) (fun K hK => ?_)
                                        refine value_ (w1 := ?_) (v := ?_) (by rfl) rfl ?_ ?_
                                        rotate_left 2
                                        · go_simp
                                          constructor
                                          · rfl
                                          · rfl
                                        have hC := one1 _ _ bC.size c
                                        replace ho := Kd.R_alloc ho (.cells #[.string c] 9)
                                        replace bC := bC.alloc bC.size (.cells #[.string c] 9)
                                        refine hK.out _ _ ((HS0.out _ bC)) (fun hHeld => ?_)
                                        clear hK K
                                        refine norm_ (a' := ?_) ?_ ?_
                                        rotate_left
                                        · show Act.put _ (some 158) _ = _
                                          simp only [Act.put, List.setIfInBounds_toArray, List.set_cons_zero, List.set_cons_succ, i64_w, i32_w]
                                          rfl
                                        exact norm_ (by first | (simp only [putAll, Act.put, List.setIfInBounds_toArray, List.set_cons_zero, List.set_cons_succ]; done) | (simp only [putAll, Act.put, List.setIfInBounds_toArray, List.set_cons_zero, List.set_cons_succ]; rfl)) (hCont (.slice (some ⟨w11.heap.size, 0, none⟩) 0 0, v8, .slice (some ⟨w8.heap.size, 0, none⟩) 1 1) _ ⟨ho, ⟨_, _, rfl, by first | exact hC | simpa using hC⟩, bC, HS0.out _ bC⟩)
                                      · skip
                                        refine value_ (w1 := ?_) (v := ?_) (by rfl) rfl ?_ ?_
                                        rotate_left 2
                                        · go_simp
                                          constructor
                                          · rfl
                                          · rfl
                                        have hC := one1 _ _ bC.size c
                                        rw [show (w11.alloc (.cells #[] 9)).heap.size = w11.heap.size + 1 by simp] at hC
                                        replace q6 := Kd.R_alloc q6 (.cells #[.string c] 9)
                                        replace bC := bC.alloc bC.size (.cells #[.string c] 9)
                                        refine hK.out _ _ ((HS0.out _ bC)) (fun hHeld => ?_)
                                        clear hK K
                                        refine norm_ (a' := ?_) ?_ ?_
                                        rotate_left
                                        · show Act.put _ (some 158) _ = _
                                          simp only [Act.put, List.setIfInBounds_toArray, List.set_cons_zero, List.set_cons_succ, i64_w, i32_w]
                                          rfl
                                        refine one_ (i := 8) (N := some 153) #[true, true, true, true, true, true, true, true, true, true, true, true, true, true, false, false, false, false] rfl rfl (by kernel_rfl) (by decide) (fun K hK => ?_)
                                        refine Kd.R_append_rows_step Kd.string (w0 := w10) w10.heap.size (by rfl) (.tmp 151) (.tmp 152) 32 9 (.string ⟨#[]⟩) 16 rfl Try.underlying32 info9 rfl (by decide) (by omega) (.slice (some ⟨w11.heap.size, 0, none⟩) 0 0) [] all A9 all.length c9 (fun _ => True) (fun _ => False) rfl rfl q6 (HC9.out _ bC) (fun _ _ h => h) (fun _ h => h.elim) (fun _ _ => trivial) bC bC.size (by simp; omega) ?_
                                        intro v8 w8 ho hb8 hg8 hat8
                                        rw [List.nil_append] at ho
                                        have hC := c_far hC hg8 (by simp [Value.ownBlock])
                                        have bC := hb8
                                        clear hb8 hg8 hat8 q6
                                        refine hK.out _ _ ((HS0.out _ bC)) (fun hHeld => ?_)
                                        clear hK K
                                        refine norm_ (a' := ?_) ?_ ?_
                                        rotate_left
                                        · show Act.put _ (some 153) _ = _
                                          simp only [Act.put, List.setIfInBounds_toArray, List.set_cons_zero, List.set_cons_succ, i64_w, i32_w]
                                          rfl
                                        exact norm_ (by first | (simp only [putAll, Act.put, List.setIfInBounds_toArray, List.set_cons_zero, List.set_cons_succ]; done) | (simp only [putAll, Act.put, List.setIfInBounds_toArray, List.set_cons_zero, List.set_cons_succ]; rfl)) (hCont (.slice (some ⟨w11.heap.size, 0, none⟩) 0 0, v8, .slice (some ⟨w11.heap.size + 1, 0, none⟩) 1 1) _ ⟨ho, ⟨_, _, rfl, by first | exact hC | simpa using hC⟩, bC, HS0.out _ bC⟩)
                                    · skip
                                      refine value_ (w1 := ?_) (v := ?_) (by rfl) rfl ?_ ?_
                                      rotate_left 2
                                      · go_simp
                                        constructor
                                        · rfl
                                        · rfl
                                      have hC := one1 _ _ bC.size c
                                      replace bC := bC.alloc bC.size (.cells #[.string c] 9)
                                      refine hK.out _ _ ((HS0.out _ bC)) (fun hHeld => ?_)
                                      clear hK K
                                      refine norm_ (a' := ?_) ?_ ?_
                                      rotate_left
                                      · show Act.put _ (some 158) _ = _
                                        simp only [Act.put, List.setIfInBounds_toArray, List.set_cons_zero, List.set_cons_succ, i64_w, i32_w]
                                        rfl
                                      refine one_ (i := 6) (N := some 151) #[true, true, true, true, true, true, true, true, false, true, true, true, true, true, false, false, false, false] rfl rfl (by kernel_rfl) (by decide) (fun K hK => ?_)
                                      refine value_ (w1 := ?_) (v := ?_) (by rfl) rfl ?_ ?_
                                      rotate_left 2
                                      · go_simp
                                        constructor
                                        · rfl
                                        · rfl
                                      have q6 := row0 _ _ bC.size
                                      rw [show (w11.alloc (.cells #[.string c] 9)).heap.size = w11.heap.size + 1 by simp] at q6
                                      replace hC := Kd.C_below hC ((Below.refl _ _).alloc (Nat.le_refl _) (.cells #[] 9))
                                      replace bC := bC.alloc bC.size (.cells #[] 9)
                                      refine hK.out _ _ ((HS0.out _ bC)) (fun hHeld => ?_)
                                      clear hK K
                                      refine norm_ (a' := ?_) ?_ ?_
                                      rotate_left
                                      · show Act.put _ (some 151) _ = _
                                        simp only [Act.put, List.setIfInBounds_toArray, List.set_cons_zero, List.set_cons_succ, i64_w, i32_w]
                                        rfl
                                      refine one_ (i := 8) (N := some 153) #[true, true, true, true, true, true, true, true, true, true, true, true, true, true, false, false, false, false] rfl rfl (by kernel_rfl) (by decide) (fun K hK => ?_)
                                      refine Kd.R_append_rows_step Kd.string (w0 := w10) w10.heap.size (by rfl) (.tmp 151) (.tmp 152) 32 9 (.string ⟨#[]⟩) 16 rfl Try.underlying32 info9 rfl (by decide) (by omega) (.slice (some ⟨w11.heap.size + 1, 0, none⟩) 0 0) [] all A9 all.length c9 (fun _ => True) (fun _ => False) rfl rfl q6 (HC9.out _ bC) (fun _ _ h => h) (fun _ h => h.elim) (fun _ _ => trivial) bC bC.size (by simp; omega) ?_
                                      intro v8 w8 ho hb8 hg8 hat8
                                      rw [List.nil_append] at ho
                                      have hC := c_far hC hg8 (by simp [Value.ownBlock])
                                      have bC := hb8
                                      clear hb8 hg8 hat8 q6
                                      refine hK.out _ _ ((HS0.out _ bC)) (fun hHeld => ?_)
                                      clear hK K
                                      refine norm_ (a' := ?_) ?_ ?_
                                      rotate_left
                                      · show Act.put _ (some 153) _ = _
                                        simp only [Act.put, List.setIfInBounds_toArray, List.set_cons_zero, List.set_cons_succ, i64_w, i32_w]
                                        rfl
                                      exact norm_ (by first | (simp only [putAll, Act.put, List.setIfInBounds_toArray, List.set_cons_zero, List.set_cons_succ]; done) | (simp only [putAll, Act.put, List.setIfInBounds_toArray, List.set_cons_zero, List.set_cons_succ]; rfl)) (hCont (.slice (some ⟨w11.heap.size + 1, 0, none⟩) 0 0, v8, .slice (some ⟨w11.heap.size, 0, none⟩) 1 1) _ ⟨ho, ⟨_, _, rfl, by first | exact hC | simpa using hC⟩, bC, HS0.out _ bC⟩)
                                  rintro ⟨s1, s2, s3⟩ w13 ⟨hR, ⟨A13, c13, hs3, hC⟩, bC, hHeld⟩
                                  dsimp only at hR hs3
                                  subst hs3
                                  refine norm_ (a' := ?_) ?_ ?_
                                  rotate_left
                                  · simp only [putAll, Act.put, List.setIfInBounds_toArray, List.set_cons_zero, List.set_cons_succ]
                                    rfl
                                  refine one_ (i := 14) (N := some 159) #[true, true, true, true, true, true, true, true, true, true, true, true, true, true, true, false, false, false] rfl rfl (by kernel_rfl) (by decide) (fun K hK => ?_)
                                  refine Kd.R_append_rows_step Kd.string (w0 := w10) w10.heap.size (by rfl) (.tmp 153) (.tmp 158) 32 9 (.string ⟨#[]⟩) 16 rfl Try.underlying32 info9 rfl (by decide) (by omega) s2 all [c] A13 1 c13 (fun _ => True) (fun _ => False) rfl rfl hR hC (fun _ _ h => h) (fun _ h => h.elim) (fun _ _ => trivial) bC bC.size (by omega) ?_
                                  intro v14 w14 ho14 hb14 hg14 hat14
                                  rw [← HA.out] at ho14
                                  obtain ⟨A14, c14, rfl⟩ := Kd.R_slice ho14
                                  have q14 := Kd.R_reads' ho14
                                  have bC := hb14
                                  have X2 := XX w14 bC A14 c14 q14.2.2 q14.2.1
                                  clear hg14 hat14 hb14 ho14 q14 hR hC
                                  refine hK.out _ _ ((HS0.out _ bC)) (fun hHeld => ?_)
                                  clear hK K
                                  refine norm_ (a' := ?_) ?_ ?_
                                  rotate_left
                                  · show Act.put _ (some 159) _ = _
                                    simp only [Act.put, List.setIfInBounds_toArray, List.set_cons_zero, List.set_cons_succ, i64_w, i32_w]
                                    rfl
                                  refine one_ (i := 15) (N := some 160) #[true, true, true, true, true, true, true, true, true, true, true, true, true, true, true, true, false, false] rfl rfl (by kernel_rfl) (by decide) (fun K hK => ?_)
                                  refine goes_ Try.func30 (by kernel_rfl) rfl #[.slice A10 a'.length c10, .slice A14 a'.length c14] (by rfl) rfl rfl (by simp only [List.map_toArray, List.map_cons, List.map_nil]; rfl) ?_
                                  with_reducible refine (X2).mono ?_
                                  rintro e w15 ⟨rfl, n15, hw15⟩
                                  refine ⟨_, rfl, ?_⟩
                                  have bC : Below w10.heap.size w10 w15 := by rw [hw15]; exact bC.trans (drewB _ _ _)
                                  clear hw15
                                  refine hK.out _ _ ((HS0.out _ bC)) (fun hHeld => ?_)
                                  clear hK K
                                  refine norm_ (a' := ?_) ?_ ?_
                                  rotate_left
                                  · show Act.put _ (some 160) _ = _
                                    simp only [Act.put, List.setIfInBounds_toArray, List.set_cons_zero, List.set_cons_succ, i64_w, i32_w]
                                    rfl
                                  refine pure_ (i := 16) (N := some 161) (v := ?_) (a' := ?_) #[true, true, true, true, true, true, true, true, true, true, true, true, true, true, true, true, true, false] rfl rfl (by kernel_rfl) (fun _ _ _ h => h) (Or.inl ⟨by rfl, ?_⟩) ?_ ?_
                                  rotate_left
                                  · intro w'
                                    go_simp
                                    with_reducible rfl
                                  rotate_left
                                  · simp only [Act.put, List.setIfInBounds_toArray, List.set_cons_zero, List.set_cons_succ, i64_w, i32_w]
                                    rfl
                                  refine pure_ (i := 17) (N := some 162) (v := ?_) (a' := ?_) #[true, true, true, true, true, true, true, true, true, true, true, true, true, true, true, true, true, true] rfl rfl (by kernel_rfl) (fun _ _ _ h => h) (Or.inl ⟨by rfl, ?_⟩) ?_ ?_
                                  rotate_left
                                  · intro w'
                                    go_simp
                                    with_reducible rfl
                                  rotate_left
                                  · simp only [Act.put, List.setIfInBounds_toArray, List.set_cons_zero, List.set_cons_succ, i64_w, i32_w]
                                    rfl
                                  refine done_ (by kernel_rfl) ?_
                                  go_wp2_with fail
                                  go_meet
                                  case rel => exact ⟨rfl, bC⟩
                          case rest =>
                            obtain ⟨rfl, b11⟩ := hcut
                            go_wp2_with fail
                            go_roundg (gk - 1)
                            case measure => omega
                            case rel => exact ⟨i + 1, k2, jb9, F9, a', by omega, by omega, by go_num, hk2, rfl, rfl, HJ10.out.later b11, Kd.R_below HR10.out b11, HB10.out.trans (b11.mono HB10.out.size)⟩
    · as_aux_lemma =>
        have hstop : ¬ i < l.length ∨ (i < l.length ∧ ¬ i < 30) := by omega
        have HJ := Lib.hid J
        have HB := Lib.hid B
        have r9 : Kd.R Kd.string 9 wr w.heap.size (fun b => ¬ F b) (.slice A9 all.length c9) all := r
        have Hr := Lib.hid r9
        have hla := J.nn.1
        clear hgo J B r r9
        rcases hstop with hst | ⟨hst, hst2⟩
        all_goals
          go_wp2_with fail
          refine (js_told HJ.out (by omega)).mono ?_; rintro e w10 ⟨v10, rfl, r10, b10⟩
          obtain ⟨A10, c10, rfl⟩ := Kd.R_slice r10
          have q10 := Kd.R_reads' r10
          have q9 := Kd.R_reads' (Kd.R_below Hr.out b10)
          have X := texts_same A10 c10 all A9 c9 w10 q10.2.2 q10.2.1 q9.2.2 q9.2.1 (by omega)
          have HJ10 := Lib.hid (HJ.out.later b10)
          have HB10 := Lib.hid (HB.out.trans (b10.mono HB.out.size))
          clear q9 q10 r10 b10
          go_wp2_with fail
          refine X.mono ?_; rintro e w11 ⟨rfl, n11, rfl⟩
          have S11 := js_seq (HJ10.out.drewN n11) (by omega)
          clear X
          go_wp2_with fail
          refine S11.mono ?_; rintro e w12 ⟨rfl, n12, rfl⟩
          clear S11
          have B12 := HB10.out.trans (drewB _ w10 (n11 + n12))
          go_wp2_with fail
          refine (awake_any _).mono ?_; rintro e w13 ⟨rfl, b13⟩
          go_wp2
          go_ret
          exact ⟨rfl, B12.trans (b13.mono B12.size)⟩
end Go.Proofs.Ytejfdiiennnjjaa.J
