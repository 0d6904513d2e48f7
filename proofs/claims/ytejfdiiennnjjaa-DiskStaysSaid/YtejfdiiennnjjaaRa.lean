/- The document's disk (lombardref06), by value: what New, Check and spent compute. -/
import Derived.Test.YtejfdiiennnjjaaDw
import Derived.Laws.ResultCell
import Derived.Laws.Rows
namespace Go.Proofs.Ytejfdiiennnjjaa.R
open Go.RowKit Go.Proofs Go.Proofs.Ytejfdiiennnjjaa
set_option linter.unusedVariables false

/-- The document's disk: of each file all bytes, and how many are safe; the limit; without power. -/
structure Rf where
  a0 : ByteArray
  p0 : Int
  a1 : ByteArray
  p1 : Int
  a2 : ByteArray
  p2 : Int
  a3 : ByteArray
  p3 : Int
  limit : Int
  gone : Bool
def Rf.cells (r : Rf) : Array Value := #[.string r.a0, .int .i64 r.p0, .string r.a1, .int .i64 r.p1, .string r.a2, .int .i64 r.p2, .string r.a3, .int .i64 r.p3, .int .i64 r.limit, .bool r.gone]
def Rf.a (r : Rf) (i : Int) : ByteArray := if i = 0 then r.a0 else if i = 1 then r.a1 else if i = 2 then r.a2 else r.a3
def Rf.p (r : Rf) (i : Int) : Int := if i = 0 then r.p0 else if i = 1 then r.p1 else if i = 2 then r.p2 else r.p3
def Rf.setA (r : Rf) (i : Int) (x : ByteArray) : Rf := if i = 0 then { r with a0 := x } else if i = 1 then { r with a1 := x } else if i = 2 then { r with a2 := x } else { r with a3 := x }
def Rf.setP (r : Rf) (i : Int) (x : Int) : Rf := if i = 0 then { r with p0 := x } else if i = 1 then { r with p1 := x } else if i = 2 then { r with p2 := x } else { r with p3 := x }
theorem res1 {fn : Func} {p : Tmp} (h : fn.results = #[.cell p 69]) (tmps : Array Value) (b : Nat) (r : Rf) (w : World) (hp : tmps.getD p undef = .pointer (some ⟨b, 0, none⟩))
    (hb : w.heap[b]? = some (.cells r.cells 69 (0, 0))) : (results fn tmps).run Try.prog w = .ok (.agg r.cells) w := by
  have hl := run_loadVar_row (P := Try.prog) w b 69 69 r.cells (0, 0) _ hb Try.underlying69 rfl (by kernel_rfl)
  simp only [results, h]
  simp [Sem.run_bind, Result.andThen]
  have e : tmps[p]?.getD undef = .pointer (some ⟨b, 0, none⟩) := by rw [← hp]; simp
  rw [e]
  simp only [asAddr, Sem.run_pure]
  rw [hl]
theorem res2 {fn : Func} {p u : Tmp} (h : fn.results = #[.cell p 69, .tmp u]) (tmps : Array Value) (b : Nat) (r : Rf) (n : Int) (w : World) (hp : tmps.getD p undef = .pointer (some ⟨b, 0, none⟩)) (hu : tmps.getD u undef = .int .i64 n)
    (hb : w.heap[b]? = some (.cells r.cells 69 (0, 0))) : (results fn tmps).run Try.prog w = .ok (.tuple #[.agg r.cells, .int .i64 n]) w := by
  have hl := run_loadVar_row (P := Try.prog) w b 69 69 r.cells (0, 0) _ hb Try.underlying69 rfl (by kernel_rfl)
  rw [results_cell_tmp h, hp, hu]
  simp only [asAddr, Sem.run_pure, Result.andThen]
  rw [hl]
theorem at2 (w : World) (o1 o2 : Obj) : ((w.alloc o1).alloc o2).heap[w.heap.size + 1]? = some o2 := by
  have := heap_alloc_new (w.alloc o1) o2
  simpa using this
def new : Rf := ⟨⟨#[]⟩, 0, ⟨#[]⟩, 0, ⟨#[]⟩, 0, ⟨#[]⟩, 0, -1, false⟩
set_option maxRecDepth 100000 in
theorem New_any (w : World) : Calls Try.prog 38 #[] w fun e w' => e = .returned (.agg new.cells) ∧ Below w.heap.size w w' := by
  go_enter Try.func38, Try.ntmps38
  go_wp2
  exact bodyPost_ret (res1 Try.results38 _ w.heap.size new _ rfl (heap_alloc_new _ _)) rfl ⟨rfl, (Below.refl _ _).alloc (Nat.le_refl _) _⟩
def chk (r : Rf) (i : Int) : Int := if r.gone = true then 13 else if i < 0 ∨ 3 < i then 6 else 0
set_option maxRecDepth 100000 in
theorem Check_any (r : Rf) (i : Int) (w : World) : Calls Try.prog 67 #[.agg r.cells, .int .i64 i] w fun e w' => e = .returned (.int .i64 (chk r i)) ∧ w' = w.alloc (.cells r.cells 69) := by
  obtain ⟨a0, p0, a1, p1, a2, p2, a3, p3, m, g⟩ := r
  unfold chk Rf.cells
  dsimp only
  cases g
  · by_cases h0 : i < 0
    · rw [if_neg (by simp), if_pos (Or.inl h0)]
      go_enter Try.func67, Try.ntmps67
      go_wp2
      go_ret
      exact ⟨rfl, rfl⟩
    · by_cases h3 : 3 < i
      · rw [if_neg (by simp), if_pos (Or.inr h3)]
        go_enter Try.func67, Try.ntmps67
        go_wp2
        go_ret
        exact ⟨rfl, rfl⟩
      · rw [if_neg (by simp), if_neg (by omega)]
        go_enter Try.func67, Try.ntmps67
        go_wp2
        go_ret
        exact ⟨rfl, rfl⟩
  · rw [if_pos rfl]
    go_enter Try.func67, Try.ntmps67
    go_wp2
    go_ret
    exact ⟨rfl, rfl⟩
def spe (r : Rf) (e : Int) : Rf × Int := if ¬ e = 0 then (r, e) else if r.limit = 0 then ({ r with gone := true }, 13) else if 0 < r.limit then ({ r with limit := r.limit - 1 }, 0) else (r, 0)
set_option maxRecDepth 100000 in
theorem spent_any (r : Rf) (e0 : Int) (w : World) (hr : r.limit ≤ 9223372036854775807) : Calls Try.prog 72 #[.agg r.cells, .int .i64 e0] w fun e w' => e = .returned (.tuple #[.agg (spe r e0).1.cells, .int .i64 (spe r e0).2]) ∧ ∃ o1 o2, w' = (w.alloc o1).alloc o2 := by
  obtain ⟨a0, p0, a1, p1, a2, p2, a3, p3, m, g⟩ := r
  unfold spe
  dsimp only at hr ⊢
  by_cases he : e0 = 0
  · rw [if_neg (not_not_intro he)]
    by_cases h0 : m = 0
    · subst h0
      subst he
      rw [if_pos rfl]
      unfold Rf.cells
      dsimp only
      go_enter Try.func72, Try.ntmps72
      go_wp2
      refine bodyPost_ret (res2 Try.results72 _ (w.heap.size + 1) ⟨a0, p0, a1, p1, a2, p2, a3, p3, 0, true⟩ 13 _ rfl rfl ?_) rfl ⟨rfl, _, _, rfl⟩
      exact at2 _ _ _
    · subst he
      rw [if_neg h0]
      by_cases h1 : 0 < m
      · rw [if_pos h1]
        unfold Rf.cells
        dsimp only
        go_enter Try.func72, Try.ntmps72
        go_wp2
        refine bodyPost_ret (res2 Try.results72 _ (w.heap.size + 1) ⟨a0, p0, a1, p1, a2, p2, a3, p3, m - 1, g⟩ 0 _ rfl rfl ?_) rfl ⟨rfl, _, _, rfl⟩
        exact at2 _ _ _
      · rw [if_neg h1]
        unfold Rf.cells
        dsimp only
        go_enter Try.func72, Try.ntmps72
        go_wp2
        refine bodyPost_ret (res2 Try.results72 _ (w.heap.size + 1) ⟨a0, p0, a1, p1, a2, p2, a3, p3, m, g⟩ 0 _ rfl rfl ?_) rfl ⟨rfl, _, _, rfl⟩
        exact at2 _ _ _
  · rw [if_pos he]
    unfold Rf.cells
    dsimp only
    go_enter Try.func72, Try.ntmps72
    go_wp2
    refine bodyPost_ret (res2 Try.results72 _ (w.heap.size + 1) ⟨a0, p0, a1, p1, a2, p2, a3, p3, m, g⟩ e0 _ rfl rfl ?_) rfl ⟨rfl, _, _, rfl⟩
    exact at2 _ _ _
end Go.Proofs.Ytejfdiiennnjjaa.R
