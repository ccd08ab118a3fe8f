/-
  UpkeepWithout, for every task and number that can be read: the law returns true, and its arguments read as they did. No condition.
-/
import Derived.Test.YtkkajemahehoaaaRk
import Derived.Test.YtkkajemahehoaaaYr
import Derived.Test.YtkkajemahehoaaaUw
namespace Go.Proofs.Ytkkajemahehoaaa
open Go.ChangeShapes Go.WideShapes Go.RowKit Go.Deep

theorem cells33 : Try.prog.cellsOf 33 = 1 := by kernel_rfl

theorem Reads.task {w : World} {cs : List Value} (h : Reads w 29 cs) : ∃ (t : Task) (A : Option Addr) (n c : Nat) (A' : Option Addr) (n' c' : Nat), cs = (t.val A n c A' n' c').toList ∧ TkM w t A n c A' n' c' ∧ (I64 t.rd.first ∧ I64 t.rd.years) ∧ (∀ (i : Nat) (x : Work), t.works[i]? = some x → WkOK x) ∧ n ≤ c ∧ c ≤ maxLen ∧ c' ≤ maxLen ∧ I64 t.gap ∧ I64 t.width := by
  obtain ⟨a0, a1, a2, a3, a4, a5, a6, a7, a8, a9, rfl⟩ := len10 (h.len Try.underlying29 cells29)
  have h0 : Reads w 24 [a0, a1, a2] := h.field Try.underlying29 0 rfl cells24
  have h1 : Reads w 25 [a3] := h.field Try.underlying29 1 rfl cells25
  have h2 : Reads w 3 [a4] := h.field Try.underlying29 2 rfl cells3
  have h3 : Reads w 3 [a5] := h.field Try.underlying29 3 rfl cells3
  have h4 : Reads w 27 [a6, a7] := h.field Try.underlying29 4 rfl cells27
  have h5 : Reads w 27 [a8, a9] := h.field Try.underlying29 5 rfl cells27
  obtain ⟨r, A, n, c, e0, e1, e2, hr, b0, b1⟩ := h0.record
  obtain ⟨A', n', c', ws, rfl, k1, k2, hw, hk⟩ := h1.works
  obtain ⟨g, rfl, bg⟩ := h2.i64
  obtain ⟨wd, rfl, bw⟩ := h3.i64
  obtain ⟨d1, d2, ed, _, _⟩ := h4.risk
  obtain ⟨p1, p2, ep, _, _⟩ := h5.risk
  simp only [List.cons.injEq, and_true] at e0 ed ep
  obtain ⟨rfl, rfl, rfl⟩ := e0
  obtain ⟨rfl, rfl⟩ := ed
  obtain ⟨rfl, rfl⟩ := ep
  exact ⟨⟨r, ws, g, wd, (d1, d2), (p1, p2)⟩, A, n, c, A', n', c', rfl, ⟨hr, hw, k1, fun i v hv => by have := (hk i v hv).1; unfold maxLen at this; omega⟩, ⟨b0, b1⟩, hk, e1, e2, k2, bg, bw⟩

theorem Reads.ints {w : World} {v : Value} (h : Reads w 33 [v]) : ∃ (A : Option Addr) (n c : Nat) (xs : List Int), v = .slice A n c ∧ n ≤ c ∧ c ≤ maxLen ∧ RdI w A n xs ∧ ∀ x ∈ xs, I64 x := by
  obtain ⟨A, n, c, e, h1, h2, hi⟩ := h.slice Try.underlying33
  simp at e
  obtain ⟨ys, hy⟩ := rd_of_reads (enc := fun x : { x : Int // I64 x } => [Value.int .i64 x.1]) (k := 1) (w := w) (A := A) (n := n) (fun i hin => by
    obtain ⟨ad, cs', e, hl, ha, hr⟩ := hi i hin
    rw [cells3] at ha hl
    obtain ⟨a, rfl⟩ := len1 hl
    obtain ⟨x, rfl, hx⟩ := hr.i64
    exact ⟨ad, ⟨x, hx⟩, e, ha⟩)
  refine ⟨A, n, c, ys.map (·.1), e, h1, h2, ⟨by simp [hy.1], fun i x hx => ?_⟩, fun x hx => ?_⟩
  · rw [List.getElem?_map, Option.map_eq_some_iff] at hx
    obtain ⟨z, hz, rfl⟩ := hx
    exact hy.2 i z hz
  · rw [List.mem_map] at hx
    obtain ⟨z, _, rfl⟩ := hx
    exact z.2

/-- A value of one cell is that cell. -/
theorem one_int {P : Program} {w : World} {t : TypeId} {k : IntKind} {v : Value} {b : Nat} (ht : P.underlying t = some (.int k)) (h : Value.okWide P w .any b t v) : v.cells.toList = [v] := by
  obtain ⟨n, rfl⟩ := okWide_int ht h
  rfl
theorem one_slice {P : Program} {w : World} {t e : TypeId} {v : Value} {b : Nat} (ht : P.underlying t = some (.slice e)) (h : Value.okWide P w .any b t v) : v.cells.toList = [v] := by
  obtain ⟨a, l, c, rfl⟩ := okWide_slice ht h
  rfl
end Go.Proofs.Ytkkajemahehoaaa

namespace Go.Proofs.Ytkkajemahehoaaa
open Go.ChangeShapes Go.WideShapes Go.RowKit Go.Deep

theorem okWide_array {P : Program} {w : World} {r : Reach} {base : Nat} {t e : TypeId} {n : Nat} {v : Value} (ht : P.underlying t = some (.array n e)) (h : Value.okWide P w r base t v) : ∃ cs, v = .agg cs := by
  simp only [Value.okWide, ht] at h
  obtain ⟨cs, h1, _⟩ := h
  exact ⟨cs, h1⟩
theorem arr_of {P : Program} {w : World} {t e : TypeId} {n : Nat} {b : Nat} {v : Value} (ht : P.underlying t = some (.array n e)) (h : Value.okWide P w .any b t v) : v = .agg v.cells := by
  obtain ⟨cs, rfl⟩ := okWide_array ht h
  rfl
theorem cells51 : Try.prog.cellsOf 51 = 2 := by kernel_rfl
theorem cells49 : Try.prog.cellsOf 49 = 4 := by kernel_rfl
theorem cells56 : Try.prog.cellsOf 56 = 3 := by kernel_rfl
theorem cells55 : Try.prog.cellsOf 55 = 5 := by kernel_rfl
theorem cells48 : Try.prog.cellsOf 48 = 1 := by kernel_rfl
theorem cells5 : Try.prog.cellsOf 5 = 1 := by kernel_rfl

theorem Reads.two {w : World} {cs : List Value} (h : Reads w 51 cs) : ∃ a b : Int, cs = [.int .i64 a, .int .i64 b] ∧ I64 a ∧ I64 b := by
  obtain ⟨hl, hi⟩ := h.array Try.underlying51
  rw [cells51] at hl
  obtain ⟨a, b, rfl⟩ := len2 hl
  rw [cells3] at hi
  have h0 : Reads w 3 [a] := hi 0 (by omega)
  have h1 : Reads w 3 [b] := hi 1 (by omega)
  obtain ⟨x0, rfl, b0⟩ := h0.i64
  obtain ⟨x1, rfl, b1⟩ := h1.i64
  exact ⟨x0, x1, rfl, b0, b1⟩
/-- An integer of 16 bits without a sign. -/
def U16 (n : Int) : Prop := 0 ≤ n ∧ n ≤ 65535
theorem Reads.u16 {w : World} {v : Value} (h : Reads w 48 [v]) : ∃ n, v = .int .u16 n ∧ U16 n := by
  obtain ⟨n, hn, hw⟩ := h.int Try.underlying48
  simp at hn
  simp [Lit.wf, IntKind.min, IntKind.max, IntKind.signed, IntKind.bits] at hw
  exact ⟨n, hn, hw⟩
theorem Reads.u8 {w : World} {v : Value} (h : Reads w 5 [v]) : ∃ n, v = .int .u8 n ∧ 0 ≤ n ∧ n ≤ 255 := by
  obtain ⟨n, hn, hw⟩ := h.int Try.underlying5
  simp at hn
  simp [Lit.wf, IntKind.min, IntKind.max, IntKind.signed, IntKind.bits] at hw
  exact ⟨n, hn, hw⟩
theorem Reads.four16 {w : World} {cs : List Value} (h : Reads w 49 cs) : ∃ a b c d : Int, cs = [.int .u16 a, .int .u16 b, .int .u16 c, .int .u16 d] ∧ U16 a ∧ U16 b ∧ U16 c ∧ U16 d := by
  obtain ⟨hl, hi⟩ := h.array Try.underlying49
  rw [cells49] at hl
  obtain ⟨a, b, c, d, rfl⟩ := len4 hl
  rw [cells48] at hi
  have h0 : Reads w 48 [a] := hi 0 (by omega)
  have h1 : Reads w 48 [b] := hi 1 (by omega)
  have h2 : Reads w 48 [c] := hi 2 (by omega)
  have h3 : Reads w 48 [d] := hi 3 (by omega)
  obtain ⟨x0, rfl, b0⟩ := h0.u16
  obtain ⟨x1, rfl, b1⟩ := h1.u16
  obtain ⟨x2, rfl, b2⟩ := h2.u16
  obtain ⟨x3, rfl, b3⟩ := h3.u16
  exact ⟨x0, x1, x2, x3, rfl, b0, b1, b2, b3⟩
theorem Reads.three16 {w : World} {cs : List Value} (h : Reads w 56 cs) : ∃ a b c : Int, cs = [.int .u16 a, .int .u16 b, .int .u16 c] ∧ U16 a ∧ U16 b ∧ U16 c := by
  obtain ⟨hl, hi⟩ := h.array Try.underlying56
  rw [cells56] at hl
  obtain ⟨a, b, c, rfl⟩ := len3 hl
  rw [cells48] at hi
  have h0 : Reads w 48 [a] := hi 0 (by omega)
  have h1 : Reads w 48 [b] := hi 1 (by omega)
  have h2 : Reads w 48 [c] := hi 2 (by omega)
  obtain ⟨x0, rfl, b0⟩ := h0.u16
  obtain ⟨x1, rfl, b1⟩ := h1.u16
  obtain ⟨x2, rfl, b2⟩ := h2.u16
  exact ⟨x0, x1, x2, rfl, b0, b1, b2⟩
theorem len5 {α : Type} {l : List α} (h : l.length = 5) : ∃ a b c d e, l = [a, b, c, d, e] := by
  match l, h with
  | [a, b, c, d, e], _ => exact ⟨a, b, c, d, e, rfl⟩
theorem Reads.season {w : World} {cs : List Value} (h : Reads w 55 cs) : ∃ wd l a b d : Int, cs = [.int .i64 wd, .int .i64 l, .int .i64 a, .int .i64 b, .int .i64 d] ∧ I64 wd ∧ I64 l ∧ I64 a ∧ I64 b ∧ I64 d := by
  obtain ⟨a, b, c, d, e, rfl⟩ := len5 (h.len Try.underlying55 cells55)
  have h0 : Reads w 3 [a] := h.field Try.underlying55 0 rfl cells3
  have h1 : Reads w 3 [b] := h.field Try.underlying55 1 rfl cells3
  have h2 : Reads w 27 [c, d] := h.field Try.underlying55 2 rfl cells27
  have h3 : Reads w 3 [e] := h.field Try.underlying55 3 rfl cells3
  obtain ⟨x0, rfl, b0⟩ := h0.i64
  obtain ⟨x1, rfl, b1⟩ := h1.i64
  obtain ⟨x2, x3, e2, b2, b3⟩ := h2.risk
  obtain ⟨x4, rfl, b4⟩ := h3.i64
  simp only [List.cons.injEq, and_true] at e2
  obtain ⟨rfl, rfl⟩ := e2
  exact ⟨x0, x1, x2, x3, x4, rfl, b0, b1, b2, b3, b4⟩
end Go.Proofs.Ytkkajemahehoaaa

namespace Go.Proofs.Ytkkajemahehoaaa
open Go.ChangeShapes Go.WideShapes Go.RowKit

set_option maxRecDepth 100000 in
theorem upkeepWithout_lifted (os : Os) (started : os.Started) (H : Type) (enc : TypeId × Value → H) :
    ReturnsInHanded {} Try.checked os 13 .any (Rows.upkeepWithoutSpec.pre6 enc Try.prog Try.f13 Rows.upkeepWithoutRow.domain false) (Rows.upkeepWithoutSpec.post enc Try.prog Try.f13 false true false false) := by
  refine returnsInHanded_of_change (C := Try.checked) Try.own started (by kernel_rfl) Try.func13
    (ChangeSpec.witness6 (enc := enc) (C := Try.checked) false ⟨#[], #[.agg #[.int .i64 0, .int .i64 0, .slice none 0 0, .slice none 0 0, .int .i64 0, .int .i64 0, .int .i64 0, .int .i64 0, .int .i64 0, .int .i64 0], .int .u8 0], []⟩ 8 (by kernel_rfl) (by kernel_rfl) (by kernel_rfl) (by kernel_rfl)) ?_
  intro W base args ds gs before hval0 hW _ _
  have hval : ∀ (j : Nat) t v, Try.f13.params[j]? = some t → args[j]? = some v → Value.okWide Try.prog W .any base t v := hval0
  have hW' := hW
  obtain ⟨p, q, hA0, hV, rfl, hfz, hnd⟩ := hW
  have hA : DataW.TrodAll enc Try.prog W 0 (fun _ => true) true Try.f13.params.toList args.toList ds p := hA0
  rw [Try.params13] at hA hval
  obtain ⟨v0, v1, d0, d1, p0, p1, rfl, rfl, rfl, h0, h1⟩ := trodAll_two hA
  obtain ⟨rfl, rfl⟩ := trodVars_none hV
  obtain ⟨t, A, n, c, A', n', c', e0, hT, b0⟩ := (reads_of h0).task
  have e0' := agg_list (agg_of Try.underlying29 (hval 0 29 v0 rfl rfl)) e0
  subst e0'
  have r1 := reads_of h1
  rw [one_int Try.underlying5 (hval 1 5 v1 rfl rfl)] at r1
  obtain ⟨a8, rfl, a80, a81⟩ := r1.u8
  refine (UpkeepWithout_any t a8 A n c A' n' c' W hT a80 a81).mono fun e W' ⟨he, hb⟩ => ?_
  subst he
  exact ⟨_, rfl, law_post rfl (by kernel_rfl) (by rw [Try.params13]; exact fun t ht => by simp at ht; rcases ht with rfl | rfl <;> exact ⟨by kernel_rfl, of_decide_eq_true (by kernel_rfl)⟩) hW' rfl hb⟩

theorem upkeepWithout_holds : Rows.UpkeepWithoutSaid :=
  OpenClaim.holds_of_wide 13 Try.f13 rfl rfl rfl rfl rfl rfl rfl ⟨rfl, rfl, rfl, rfl, rfl⟩ rfl rfl rfl rfl rfl (by kernel_rfl) Try.func13 (by kernel_rfl)
    (of_decide_eq_true (by kernel_rfl)) (by unfold Func.isWrapper; first | (rw [if_pos (by decide +kernel)]; kernel_rfl) | (rw [if_neg (by decide +kernel)]; exact ⟨rfl, rfl⟩))
    (fun os started H enc _ => upkeepWithout_lifted os started H enc)

#print axioms upkeepWithout_holds

end Go.Proofs.Ytkkajemahehoaaa
