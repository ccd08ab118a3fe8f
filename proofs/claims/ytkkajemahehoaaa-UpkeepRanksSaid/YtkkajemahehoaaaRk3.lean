/- What the arguments of a law read as: arrays, a season, small integers. -/
import Derived.Test.YtkkajemahehoaaaRk2
namespace Go.Proofs.Ytkkajemahehoaaa
open Go.ChangeShapes Go.WideShapes Go.RowKit Go.Deep

theorem okWide_array {P : Program} {w : World} {r : Reach} {base : Nat} {t e : TypeId} {n : Nat} {v : Value} (ht : P.underlying t = some (.array n e)) (h : Value.okWide P w r base t v) : ∃ cs, v = .agg cs := by
  simp only [Value.okWide, ht] at h
  obtain ⟨cs, h1, _⟩ := h
  exact ⟨cs, h1⟩
theorem arr_of {P : Program} {w : World} {t e : TypeId} {n : Nat} {b : Nat} {v : Value} (ht : P.underlying t = some (.array n e)) (h : Value.okWide P w .any b t v) : v = .agg v.cells := by
  obtain ⟨cs, rfl⟩ := okWide_array ht h
  rfl
theorem cells51 : Try.prog.cellsOf 51 = 2 := by kernel_rfl
theorem cells49 : Try.prog.cellsOf 49 = 4 := by kernel_rfl
theorem cells56 : Try.prog.cellsOf 56 = 3 := by kernel_rfl
theorem cells55 : Try.prog.cellsOf 55 = 5 := by kernel_rfl
theorem cells48 : Try.prog.cellsOf 48 = 1 := by kernel_rfl
theorem cells5 : Try.prog.cellsOf 5 = 1 := by kernel_rfl

theorem Reads.two {w : World} {cs : List Value} (h : Reads w 51 cs) : ∃ a b : Int, cs = [.int .i64 a, .int .i64 b] ∧ I64 a ∧ I64 b := by
  obtain ⟨hl, hi⟩ := h.array Try.underlying51
  rw [cells51] at hl
  obtain ⟨a, b, rfl⟩ := len2 hl
  rw [cells3] at hi
  have h0 : Reads w 3 [a] := hi 0 (by omega)
  have h1 : Reads w 3 [b] := hi 1 (by omega)
  obtain ⟨x0, rfl, b0⟩ := h0.i64
  obtain ⟨x1, rfl, b1⟩ := h1.i64
  exact ⟨x0, x1, rfl, b0, b1⟩
/-- An integer of 16 bits without a sign. -/
def U16 (n : Int) : Prop := 0 ≤ n ∧ n ≤ 65535
theorem Reads.u16 {w : World} {v : Value} (h : Reads w 48 [v]) : ∃ n, v = .int .u16 n ∧ U16 n := by
  obtain ⟨n, hn, hw⟩ := h.int Try.underlying48
  simp at hn
  simp [Lit.wf, IntKind.min, IntKind.max, IntKind.signed, IntKind.bits] at hw
  exact ⟨n, hn, hw⟩
theorem Reads.u8 {w : World} {v : Value} (h : Reads w 5 [v]) : ∃ n, v = .int .u8 n ∧ 0 ≤ n ∧ n ≤ 255 := by
  obtain ⟨n, hn, hw⟩ := h.int Try.underlying5
  simp at hn
  simp [Lit.wf, IntKind.min, IntKind.max, IntKind.signed, IntKind.bits] at hw
  exact ⟨n, hn, hw⟩
theorem Reads.four16 {w : World} {cs : List Value} (h : Reads w 49 cs) : ∃ a b c d : Int, cs = [.int .u16 a, .int .u16 b, .int .u16 c, .int .u16 d] ∧ U16 a ∧ U16 b ∧ U16 c ∧ U16 d := by
  obtain ⟨hl, hi⟩ := h.array Try.underlying49
  rw [cells49] at hl
  obtain ⟨a, b, c, d, rfl⟩ := len4 hl
  rw [cells48] at hi
  have h0 : Reads w 48 [a] := hi 0 (by omega)
  have h1 : Reads w 48 [b] := hi 1 (by omega)
  have h2 : Reads w 48 [c] := hi 2 (by omega)
  have h3 : Reads w 48 [d] := hi 3 (by omega)
  obtain ⟨x0, rfl, b0⟩ := h0.u16
  obtain ⟨x1, rfl, b1⟩ := h1.u16
  obtain ⟨x2, rfl, b2⟩ := h2.u16
  obtain ⟨x3, rfl, b3⟩ := h3.u16
  exact ⟨x0, x1, x2, x3, rfl, b0, b1, b2, b3⟩
theorem Reads.three16 {w : World} {cs : List Value} (h : Reads w 56 cs) : ∃ a b c : Int, cs = [.int .u16 a, .int .u16 b, .int .u16 c] ∧ U16 a ∧ U16 b ∧ U16 c := by
  obtain ⟨hl, hi⟩ := h.array Try.underlying56
  rw [cells56] at hl
  obtain ⟨a, b, c, rfl⟩ := len3 hl
  rw [cells48] at hi
  have h0 : Reads w 48 [a] := hi 0 (by omega)
  have h1 : Reads w 48 [b] := hi 1 (by omega)
  have h2 : Reads w 48 [c] := hi 2 (by omega)
  obtain ⟨x0, rfl, b0⟩ := h0.u16
  obtain ⟨x1, rfl, b1⟩ := h1.u16
  obtain ⟨x2, rfl, b2⟩ := h2.u16
  exact ⟨x0, x1, x2, rfl, b0, b1, b2⟩
theorem len5 {α : Type} {l : List α} (h : l.length = 5) : ∃ a b c d e, l = [a, b, c, d, e] := by
  match l, h with
  | [a, b, c, d, e], _ => exact ⟨a, b, c, d, e, rfl⟩
theorem Reads.season {w : World} {cs : List Value} (h : Reads w 55 cs) : ∃ wd l a b d : Int, cs = [.int .i64 wd, .int .i64 l, .int .i64 a, .int .i64 b, .int .i64 d] ∧ I64 wd ∧ I64 l ∧ I64 a ∧ I64 b ∧ I64 d := by
  obtain ⟨a, b, c, d, e, rfl⟩ := len5 (h.len Try.underlying55 cells55)
  have h0 : Reads w 3 [a] := h.field Try.underlying55 0 rfl cells3
  have h1 : Reads w 3 [b] := h.field Try.underlying55 1 rfl cells3
  have h2 : Reads w 27 [c, d] := h.field Try.underlying55 2 rfl cells27
  have h3 : Reads w 3 [e] := h.field Try.underlying55 3 rfl cells3
  obtain ⟨x0, rfl, b0⟩ := h0.i64
  obtain ⟨x1, rfl, b1⟩ := h1.i64
  obtain ⟨x2, x3, e2, b2, b3⟩ := h2.risk
  obtain ⟨x4, rfl, b4⟩ := h3.i64
  simp only [List.cons.injEq, and_true] at e2
  obtain ⟨rfl, rfl⟩ := e2
  exact ⟨x0, x1, x2, x3, x4, rfl, b0, b1, b2, b3, b4⟩
end Go.Proofs.Ytkkajemahehoaaa
