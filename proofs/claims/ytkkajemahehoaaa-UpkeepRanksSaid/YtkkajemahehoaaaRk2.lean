/- What the arguments of a law read as: tasks, plans, arrays. -/
import Derived.Test.YtkkajemahehoaaaRk
import Derived.Test.YtkkajemahehoaaaYr
namespace Go.Proofs.Ytkkajemahehoaaa
open Go.ChangeShapes Go.WideShapes Go.RowKit Go.Deep

theorem cells33 : Try.prog.cellsOf 33 = 1 := by kernel_rfl

theorem Reads.task {w : World} {cs : List Value} (h : Reads w 29 cs) : ∃ (t : Task) (A : Option Addr) (n c : Nat) (A' : Option Addr) (n' c' : Nat), cs = (t.val A n c A' n' c').toList ∧ TkM w t A n c A' n' c' ∧ (I64 t.rd.first ∧ I64 t.rd.years) ∧ (∀ (i : Nat) (x : Work), t.works[i]? = some x → WkOK x) ∧ n ≤ c ∧ c ≤ maxLen ∧ c' ≤ maxLen ∧ I64 t.gap ∧ I64 t.width := by
  obtain ⟨a0, a1, a2, a3, a4, a5, a6, a7, a8, a9, rfl⟩ := len10 (h.len Try.underlying29 cells29)
  have h0 : Reads w 24 [a0, a1, a2] := h.field Try.underlying29 0 rfl cells24
  have h1 : Reads w 25 [a3] := h.field Try.underlying29 1 rfl cells25
  have h2 : Reads w 3 [a4] := h.field Try.underlying29 2 rfl cells3
  have h3 : Reads w 3 [a5] := h.field Try.underlying29 3 rfl cells3
  have h4 : Reads w 27 [a6, a7] := h.field Try.underlying29 4 rfl cells27
  have h5 : Reads w 27 [a8, a9] := h.field Try.underlying29 5 rfl cells27
  obtain ⟨r, A, n, c, e0, e1, e2, hr, b0, b1⟩ := h0.record
  obtain ⟨A', n', c', ws, rfl, k1, k2, hw, hk⟩ := h1.works
  obtain ⟨g, rfl, bg⟩ := h2.i64
  obtain ⟨wd, rfl, bw⟩ := h3.i64
  obtain ⟨d1, d2, ed, _, _⟩ := h4.risk
  obtain ⟨p1, p2, ep, _, _⟩ := h5.risk
  simp only [List.cons.injEq, and_true] at e0 ed ep
  obtain ⟨rfl, rfl, rfl⟩ := e0
  obtain ⟨rfl, rfl⟩ := ed
  obtain ⟨rfl, rfl⟩ := ep
  exact ⟨⟨r, ws, g, wd, (d1, d2), (p1, p2)⟩, A, n, c, A', n', c', rfl, ⟨hr, hw, k1, fun i v hv => by have := (hk i v hv).1; unfold maxLen at this; omega⟩, ⟨b0, b1⟩, hk, e1, e2, k2, bg, bw⟩

theorem Reads.ints {w : World} {v : Value} (h : Reads w 33 [v]) : ∃ (A : Option Addr) (n c : Nat) (xs : List Int), v = .slice A n c ∧ n ≤ c ∧ c ≤ maxLen ∧ RdI w A n xs ∧ ∀ x ∈ xs, I64 x := by
  obtain ⟨A, n, c, e, h1, h2, hi⟩ := h.slice Try.underlying33
  simp at e
  obtain ⟨ys, hy⟩ := rd_of_reads (enc := fun x : { x : Int // I64 x } => [Value.int .i64 x.1]) (k := 1) (w := w) (A := A) (n := n) (fun i hin => by
    obtain ⟨ad, cs', e, hl, ha, hr⟩ := hi i hin
    rw [cells3] at ha hl
    obtain ⟨a, rfl⟩ := len1 hl
    obtain ⟨x, rfl, hx⟩ := hr.i64
    exact ⟨ad, ⟨x, hx⟩, e, ha⟩)
  refine ⟨A, n, c, ys.map (·.1), e, h1, h2, ⟨by simp [hy.1], fun i x hx => ?_⟩, fun x hx => ?_⟩
  · rw [List.getElem?_map, Option.map_eq_some_iff] at hx
    obtain ⟨z, hz, rfl⟩ := hx
    exact hy.2 i z hz
  · rw [List.mem_map] at hx
    obtain ⟨z, _, rfl⟩ := hx
    exact z.2

/-- A value of one cell is that cell. -/
theorem one_int {P : Program} {w : World} {t : TypeId} {k : IntKind} {v : Value} {b : Nat} (ht : P.underlying t = some (.int k)) (h : Value.okWide P w .any b t v) : v.cells.toList = [v] := by
  obtain ⟨n, rfl⟩ := okWide_int ht h
  rfl
theorem one_slice {P : Program} {w : World} {t e : TypeId} {v : Value} {b : Nat} (ht : P.underlying t = some (.slice e)) (h : Value.okWide P w .any b t v) : v.cells.toList = [v] := by
  obtain ⟨a, l, c, rfl⟩ := okWide_slice ht h
  rfl
end Go.Proofs.Ytkkajemahehoaaa
