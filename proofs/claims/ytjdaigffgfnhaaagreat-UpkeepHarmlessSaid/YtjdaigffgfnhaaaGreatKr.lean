/- What the arguments of a law read as, and the law's row out of its walk: for any law of this seat. -/
import Derived.Test.YtjdaigffgfnhaaaGreatRows
import Derived.Test.YtjdaigffgfnhaaaGreatKc
import Derived.ProofKit
import Derived.Deep.Slices
import Derived.OpenShut
namespace Go.Proofs.YtjdaigffgfnhaaaGreat
open Go.ChangeShapes Go.WideShapes Go.RowKit Go.Deep

/-- Some cells can be read as data of a type. -/
def Reads (w : World) (t : TypeId) (cs : List Value) : Prop :=
  ∃ (H : Type) (enc : TypeId × Value → H) (fuel : Nat) (x : DataW H × List MemPlace), DataW.trod enc Tryz.prog w 0 (fun _ => true) true fuel t cs = some x

theorem reads_of {H : Type} {enc : TypeId × Value → H} {w : World} {t : TypeId} {v : Value} {d : DataW H} {p : List MemPlace} (h : DataW.Trod enc Tryz.prog w 0 (fun _ => true) true t v d p) : Reads w t v.cells.toList := by
  obtain ⟨fuel, hf⟩ := h
  exact ⟨H, enc, fuel, _, hf⟩

theorem Reads.int {w : World} {t : TypeId} {cs : List Value} {k : IntKind} (ht : Tryz.prog.underlying t = some (.int k)) (h : Reads w t cs) : ∃ n, cs = [.int k n] ∧ (Lit.int k n).wf = true := by
  obtain ⟨H, enc, fuel, x, hx⟩ := h
  obtain ⟨n, h1, _, h3⟩ := DataW.trod_int ht hx
  exact ⟨n, h1, h3⟩
theorem Reads.string {w : World} {t : TypeId} {cs : List Value} (ht : Tryz.prog.underlying t = some .string) (h : Reads w t cs) : ∃ s : ByteArray, cs = [.string s] ∧ s.size ≤ maxLen := by
  obtain ⟨H, enc, fuel, x, hx⟩ := h
  obtain ⟨n, h1, _, h3⟩ := DataW.trod_string ht hx
  exact ⟨n, h1, h3⟩
theorem Reads.struct {w : World} {t : TypeId} {cs : List Value} {fs : Array Field} (ht : Tryz.prog.underlying t = some (.struct fs)) (h : Reads w t cs) :
    cs.length = Tryz.prog.cellsOf t ∧ ∀ (i : Nat) (f : Field), fs[i]? = some f → Reads w f.type ((cs.drop f.offset).take (Tryz.prog.cellsOf f.type)) := by
  obtain ⟨H, enc, fuel, x, hx⟩ := h
  obtain ⟨xs, n, _, _, hl, hxl, hf⟩ := DataW.trod_struct ht hx
  refine ⟨hl, fun i f hi => ?_⟩
  have hil : i < fs.size := (Array.getElem?_eq_some_iff.1 hi).1
  exact ⟨H, enc, n, xs[i]'(by omega), (hf i f hi).trans (List.getElem?_eq_getElem (by omega))⟩
theorem Reads.array {w : World} {t e : TypeId} {cs : List Value} {n : Nat} (ht : Tryz.prog.underlying t = some (.array n e)) (h : Reads w t cs) :
    cs.length = Tryz.prog.cellsOf t ∧ ∀ (i : Nat), i < n → Reads w e ((cs.drop (i * Tryz.prog.cellsOf e)).take (Tryz.prog.cellsOf e)) := by
  obtain ⟨H, enc, fuel, x, hx⟩ := h
  obtain ⟨xs, m, _, _, hl, hxl, hf⟩ := DataW.trod_array ht hx
  refine ⟨hl, fun i hi => ?_⟩
  exact ⟨H, enc, m, xs[i]'(by omega), (hf i hi).trans (List.getElem?_eq_getElem (by omega))⟩
theorem Reads.slice {w : World} {t e : TypeId} {cs : List Value} (ht : Tryz.prog.underlying t = some (.slice e)) (h : Reads w t cs) :
    ∃ (A : Option Addr) (n c : Nat), cs = [.slice A n c] ∧ n ≤ c ∧ c ≤ maxLen ∧ ∀ i, i < n → ∃ ad cs', A = some ad ∧ cs'.length = Tryz.prog.cellsOf e ∧ At w (ad.add (i * Tryz.prog.cellsOf e)) cs' ∧ Reads w e cs' := by
  obtain ⟨H, enc, fuel, x, hx⟩ := h
  rcases open_slice ht hx with ⟨rfl, _⟩ | ⟨a, len, cap, m, n, D, Pl, rfl, _, hl, hm, hmm, _, hi⟩
  · exact ⟨none, 0, 0, rfl, Nat.le_refl _, Nat.zero_le _, fun i h => by omega⟩
  · refine ⟨some a, len, cap, rfl, hl, hm, fun i hil => ?_⟩
    simp only [if_true] at hmm
    obtain ⟨cs', hc, ht'⟩ := hi i (by omega)
    obtain ⟨_, hcl, hat⟩ := World.cells?_some hc
    refine ⟨a, cs', rfl, hcl, fun j v hj => ?_, H, enc, n, _, ht'⟩
    have hjl := (List.getElem?_eq_some_iff.1 hj).1
    rw [hat j (by omega)]
    exact hj

theorem rd_of_reads {α : Type} {enc : α → List Value} {k : Nat} {w : World} {A : Option Addr} : ∀ {n : Nat}, (∀ i, i < n → ∃ ad x, A = some ad ∧ At w (ad.add (i * k)) (enc x)) → ∃ xs, Rd enc k w A n xs
  | 0, _ => ⟨[], Rd.nil⟩
  | n + 1, h => by
    obtain ⟨xs, hxl, hx⟩ := rd_of_reads (n := n) (fun i hi => h i (by omega))
    obtain ⟨ad, x, h1, h2⟩ := h n (by omega)
    refine ⟨xs ++ [x], by simp [hxl], fun i y hy => ?_⟩
    by_cases hi : i < n
    · rw [List.getElem?_append_left (by omega)] at hy
      exact hx i y hy
    · have hil := (List.getElem?_eq_some_iff.1 hy).1
      simp at hil
      obtain rfl : i = n := by omega
      rw [List.getElem?_append_right (by omega), hxl] at hy
      simp at hy
      subst hy
      exact ⟨ad, h1, h2⟩

theorem cells3 : Tryz.prog.cellsOf 3 = 1 := by kernel_rfl

theorem len1 {α : Type} {l : List α} (h : l.length = 1) : ∃ a, l = [a] := by
  match l, h with
  | [a], _ => exact ⟨a, rfl⟩
theorem len2 {α : Type} {l : List α} (h : l.length = 2) : ∃ a b, l = [a, b] := by
  match l, h with
  | [a, b], _ => exact ⟨a, b, rfl⟩
theorem len3 {α : Type} {l : List α} (h : l.length = 3) : ∃ a b c, l = [a, b, c] := by
  match l, h with
  | [a, b, c], _ => exact ⟨a, b, c, rfl⟩
theorem len4 {α : Type} {l : List α} (h : l.length = 4) : ∃ a b c d, l = [a, b, c, d] := by
  match l, h with
  | [a, b, c, d], _ => exact ⟨a, b, c, d, rfl⟩
theorem len7 {α : Type} {l : List α} (h : l.length = 7) : ∃ a b c d e f g, l = [a, b, c, d, e, f, g] := by
  match l, h with
  | [a, b, c, d, e, f, g], _ => exact ⟨a, b, c, d, e, f, g, rfl⟩
theorem len10 {α : Type} {l : List α} (h : l.length = 10) : ∃ a b c d e f g i j k, l = [a, b, c, d, e, f, g, i, j, k] := by
  match l, h with
  | [a, b, c, d, e, f, g, i, j, k], _ => exact ⟨a, b, c, d, e, f, g, i, j, k, rfl⟩

/-- An integer within its 64 bits. -/
def I64 (n : Int) : Prop := -9223372036854775808 ≤ n ∧ n ≤ 9223372036854775807
theorem Reads.i64 {w : World} {v : Value} (h : Reads w 3 [v]) : ∃ n, v = .int .i64 n ∧ I64 n := by
  obtain ⟨n, hn, hw⟩ := h.int Tryz.underlying3
  simp at hn
  simp [Lit.wf, IntKind.min, IntKind.max, IntKind.signed, IntKind.bits] at hw
  exact ⟨n, hn, hw⟩

theorem Reads.field {w : World} {t : TypeId} {cs : List Value} {fs : Array Field} (ht : Tryz.prog.underlying t = some (.struct fs)) (h : Reads w t cs) (i : Nat) {u : TypeId} {off k : Nat}
    (hi : (fs[i]?).map (fun f => (f.type, f.offset)) = some (u, off)) (hk : Tryz.prog.cellsOf u = k) : Reads w u ((cs.drop off).take k) := by
  cases hf : fs[i]? with
  | none => rw [hf] at hi; cases hi
  | some f =>
    rw [hf] at hi
    simp at hi
    obtain ⟨rfl, rfl⟩ := hi
    have := (h.struct ht).2 i f hf
    rw [hk] at this
    exact this
theorem Reads.len {w : World} {t : TypeId} {cs : List Value} {fs : Array Field} (ht : Tryz.prog.underlying t = some (.struct fs)) (h : Reads w t cs) {k : Nat} (hk : Tryz.prog.cellsOf t = k) : cs.length = k := (h.struct ht).1.trans hk

theorem cells108 : Tryz.prog.cellsOf 44 = 3 := by kernel_rfl
theorem cells24 : Tryz.prog.cellsOf 24 = 3 := by kernel_rfl
theorem cells43 : Tryz.prog.cellsOf 26 = 4 := by kernel_rfl
theorem cells22 : Tryz.prog.cellsOf 22 = 1 := by kernel_rfl
theorem cells27 : Tryz.prog.cellsOf 36 = 2 := by kernel_rfl
theorem cells9 : Tryz.prog.cellsOf 9 = 1 := by kernel_rfl

theorem Reads.high {w : World} {cs : List Value} (h : Reads w 44 cs) : ∃ x : High, cs = High.enc x := by
  obtain ⟨a, b, c, rfl⟩ := len3 (h.len Tryz.underlying44 cells108)
  have h0 : Reads w 3 [a] := h.field Tryz.underlying44 0 rfl cells3
  have h1 : Reads w 3 [b] := h.field Tryz.underlying44 1 rfl cells3
  have h2 : Reads w 3 [c] := h.field Tryz.underlying44 2 rfl cells3
  obtain ⟨x, rfl, _⟩ := h0.i64
  obtain ⟨y, rfl, _⟩ := h1.i64
  obtain ⟨z, rfl, _⟩ := h2.i64
  exact ⟨⟨x, y, z⟩, rfl⟩
theorem Reads.highs {w : World} {v : Value} (h : Reads w 22 [v]) : ∃ (A : Option Addr) (n c : Nat) (xs : List High), v = .slice A n c ∧ n ≤ c ∧ c ≤ maxLen ∧ RdH w A n xs := by
  obtain ⟨A, n, c, e, h1, h2, hi⟩ := h.slice Tryz.underlying22
  simp at e
  obtain ⟨xs, hx⟩ := rd_of_reads (enc := High.enc) (k := 3) (w := w) (A := A) (n := n) (fun i hin => by
    obtain ⟨ad, cs', e, _, ha, hr⟩ := hi i hin
    obtain ⟨x, rfl⟩ := hr.high
    rw [cells108] at ha
    exact ⟨ad, x, e, ha⟩)
  exact ⟨A, n, c, xs, e, h1, h2, hx⟩
theorem Reads.record {w : World} {cs : List Value} (h : Reads w 24 cs) : ∃ (r : Rec) (A : Option Addr) (n c : Nat), cs = [.int .i64 r.first, .int .i64 r.years, .slice A n c] ∧ n ≤ c ∧ c ≤ maxLen ∧ RdH w A n r.highs ∧ I64 r.first ∧ I64 r.years := by
  obtain ⟨a, b, c, rfl⟩ := len3 (h.len Tryz.underlying24 cells24)
  have h0 : Reads w 3 [a] := h.field Tryz.underlying24 0 rfl cells3
  have h1 : Reads w 3 [b] := h.field Tryz.underlying24 1 rfl cells3
  have h2 : Reads w 22 [c] := h.field Tryz.underlying24 2 rfl cells22
  obtain ⟨x, rfl, bx⟩ := h0.i64
  obtain ⟨y, rfl, bz⟩ := h1.i64
  obtain ⟨A, n, c', xs, rfl, hnc, hcm, hr⟩ := h2.highs
  exact ⟨⟨x, y, xs⟩, A, n, c', rfl, hnc, hcm, hr, bx, bz⟩
theorem Reads.window {w : World} {cs : List Value} (h : Reads w 26 cs) : ∃ d m l y : Int, cs = [.int .i64 d, .int .i64 m, .int .i64 l, .int .i64 y] ∧ I64 d ∧ I64 m ∧ I64 l ∧ I64 y := by
  obtain ⟨a, b, c, d, rfl⟩ := len4 (h.len Tryz.underlying26 cells43)
  have h0 : Reads w 3 [a] := h.field Tryz.underlying26 0 rfl cells3
  have h1 : Reads w 3 [b] := h.field Tryz.underlying26 1 rfl cells3
  have h2 : Reads w 3 [c] := h.field Tryz.underlying26 2 rfl cells3
  have h3 : Reads w 3 [d] := h.field Tryz.underlying26 3 rfl cells3
  obtain ⟨x0, rfl, b0⟩ := h0.i64
  obtain ⟨x1, rfl, b1⟩ := h1.i64
  obtain ⟨x2, rfl, b2⟩ := h2.i64
  obtain ⟨x3, rfl, b3⟩ := h3.i64
  exact ⟨x0, x1, x2, x3, rfl, b0, b1, b2, b3⟩
/-- Two integers. -/
theorem Reads.risk {w : World} {cs : List Value} (h : Reads w 36 cs) : ∃ a b : Int, cs = [.int .i64 a, .int .i64 b] ∧ I64 a ∧ I64 b := by
  obtain ⟨a, b, rfl⟩ := len2 (h.len Tryz.underlying36 cells27)
  have h0 : Reads w 3 [a] := h.field Tryz.underlying36 0 rfl cells3
  have h1 : Reads w 3 [b] := h.field Tryz.underlying36 1 rfl cells3
  obtain ⟨x0, rfl, b0⟩ := h0.i64
  obtain ⟨x1, rfl, b1⟩ := h1.i64
  exact ⟨x0, x1, rfl, b0, b1⟩
theorem cellsBas : Tryz.prog.cellsOf 30 = 5 := by kernel_rfl
theorem cellsRow : Tryz.prog.cellsOf 82 = 2 := by kernel_rfl
theorem cellsPol : Tryz.prog.cellsOf 85 = 4 := by kernel_rfl
theorem cellsRows : Tryz.prog.cellsOf 27 = 1 := by kernel_rfl
theorem cellsPols : Tryz.prog.cellsOf 28 = 1 := by kernel_rfl
theorem cellsInts : Tryz.prog.cellsOf 31 = 1 := by kernel_rfl
theorem cellsSers : Tryz.prog.cellsOf 32 = 1 := by kernel_rfl
theorem cellsTask : Tryz.prog.cellsOf 34 = 11 := by kernel_rfl
theorem len5 {α : Type} {l : List α} (h : l.length = 5) : ∃ a b c d e, l = [a, b, c, d, e] := by
  match l, h with
  | [a, b, c, d, e], _ => exact ⟨a, b, c, d, e, rfl⟩
theorem len11 {α : Type} {l : List α} (h : l.length = 11) : ∃ a b c d e f g i j k m, l = [a, b, c, d, e, f, g, i, j, k, m] := by
  match l, h with
  | [a, b, c, d, e, f, g, i, j, k, m], _ => exact ⟨a, b, c, d, e, f, g, i, j, k, m, rfl⟩
theorem Reads.row {w : World} {cs : List Value} (h : Reads w 82 cs) : ∃ x : Int × Int, cs = [.int .i64 x.1, .int .i64 x.2] := by
  obtain ⟨a, b, rfl⟩ := len2 (h.len Tryz.underlying82 cellsRow)
  have h0 : Reads w 3 [a] := h.field Tryz.underlying82 0 rfl cells3
  have h1 : Reads w 3 [b] := h.field Tryz.underlying82 1 rfl cells3
  obtain ⟨x0, rfl, _⟩ := h0.i64
  obtain ⟨x1, rfl, _⟩ := h1.i64
  exact ⟨(x0, x1), rfl⟩
theorem Reads.rows {w : World} {v : Value} (h : Reads w 27 [v]) : ∃ (A : Option Addr) (n c : Nat) (xs : List (Int × Int)), v = .slice A n c ∧ n ≤ c ∧ RdR w A n xs := by
  obtain ⟨A, n, c, e, h1, _, hi⟩ := h.slice Tryz.underlying27
  simp at e
  obtain ⟨xs, hx⟩ := rd_of_reads (enc := fun x : Int × Int => [Value.int .i64 x.1, Value.int .i64 x.2]) (k := 2) (w := w) (A := A) (n := n) (fun i hin => by
    obtain ⟨ad, cs', e, _, ha, hr⟩ := hi i hin
    obtain ⟨x, rfl⟩ := hr.row
    rw [cellsRow] at ha
    exact ⟨ad, x, e, ha⟩)
  exact ⟨A, n, c, xs, e, h1, hx⟩
theorem Reads.ints {w : World} {v : Value} (h : Reads w 31 [v]) : ∃ (A : Option Addr) (n c : Nat) (xs : List Int), v = .slice A n c ∧ RdI w A n xs := by
  obtain ⟨A, n, c, e, h1, _, hi⟩ := h.slice Tryz.underlying31
  simp at e
  obtain ⟨xs, hx⟩ := rd_of_reads (enc := fun x : Int => [Value.int .i64 x]) (k := 1) (w := w) (A := A) (n := n) (fun i hin => by
    obtain ⟨ad, cs', e, hl, ha, hr⟩ := hi i hin
    rw [cells3] at ha hl
    obtain ⟨a, rfl⟩ := len1 hl
    obtain ⟨x, rfl, _⟩ := hr.i64
    exact ⟨ad, x, e, ha⟩)
  exact ⟨A, n, c, xs, e, hx⟩
theorem Reads.pol {w : World} {cs : List Value} (h : Reads w 85 cs) : ∃ x : Pol, cs = x.enc ∧ x.nm.size ≤ maxLen := by
  obtain ⟨a, b, c, d, rfl⟩ := len4 (h.len Tryz.underlying85 cellsPol)
  have h0 : Reads w 9 [a] := h.field Tryz.underlying85 0 rfl cells9
  have h1 : Reads w 3 [b] := h.field Tryz.underlying85 1 rfl cells3
  have h2 : Reads w 3 [c] := h.field Tryz.underlying85 2 rfl cells3
  have h3 : Reads w 3 [d] := h.field Tryz.underlying85 3 rfl cells3
  obtain ⟨s, hs, hsz⟩ := h0.string Tryz.underlying9
  simp at hs
  subst hs
  obtain ⟨x1, rfl, _⟩ := h1.i64
  obtain ⟨x2, rfl, _⟩ := h2.i64
  obtain ⟨x3, rfl, _⟩ := h3.i64
  exact ⟨⟨s, x1, x2, x3⟩, rfl, hsz⟩
theorem Reads.pols {w : World} {v : Value} (h : Reads w 28 [v]) : ∃ (A : Option Addr) (n c : Nat) (xs : List Pol), v = .slice A n c ∧ RdP w A n xs ∧ ∀ (i : Nat) (x : Pol), xs[i]? = some x → x.nm.size ≤ maxLen := by
  obtain ⟨A, n, c, e, _, _, hi⟩ := h.slice Tryz.underlying28
  simp at e
  obtain ⟨ys, hy⟩ := rd_of_reads (enc := fun x : { x : Pol // x.nm.size ≤ maxLen } => Pol.enc x.1) (k := 4) (w := w) (A := A) (n := n) (fun i hin => by
    obtain ⟨ad, cs', e, _, ha, hr⟩ := hi i hin
    obtain ⟨x, rfl, hx⟩ := hr.pol
    rw [cellsPol] at ha
    exact ⟨ad, ⟨x, hx⟩, e, ha⟩)
  refine ⟨A, n, c, ys.map (·.1), e, ⟨by simp [hy.1], fun i x hx => ?_⟩, fun i x hx => ?_⟩
  · rw [List.getElem?_map, Option.map_eq_some_iff] at hx
    obtain ⟨z, hz, rfl⟩ := hx
    exact hy.2 i z hz
  · rw [List.getElem?_map, Option.map_eq_some_iff] at hx
    obtain ⟨z, hz, rfl⟩ := hx
    exact z.2
/-- What is read of a task of closing; the histories and the rivers are whatever they are. -/
structure ClIn (w : World) (t : Clt) (m : ClM) : Prop where
  rows : RdR w m.A m.n t.bas.rows
  pols : RdP w m.A' m.n' t.bas.pols
  filled : RdI w m.Af m.nf t.filled
  cap : m.n ≤ m.c
  nms : ∀ (i : Nat) (v : Pol), t.bas.pols[i]? = some v → v.nm.size ≤ 9223372036854775807
abbrev Clt.inV (t : Clt) (m : ClM) (H R : Value) : List Value := [.slice m.A m.n m.c, .int .i64 t.bas.leak, .int .i64 t.bas.crest, .int .i64 t.bas.over, .slice m.A' m.n' m.c', .slice m.Af m.nf m.cf, H, R, .int .i64 t.out, .int .i64 t.limit, .int .i64 t.delay]
theorem Reads.cltask {w : World} {cs : List Value} (h : Reads w 34 cs) : ∃ (t : Clt) (m : ClM) (H R : Value), cs = t.inV m H R ∧ ClIn w t m := by
  obtain ⟨a0, a1, a2, a3, a4, a5, a6, a7, a8, a9, a10, rfl⟩ := len11 (h.len Tryz.underlying34 cellsTask)
  have hb : Reads w 30 [a0, a1, a2, a3, a4] := h.field Tryz.underlying34 0 rfl cellsBas
  have h5 : Reads w 31 [a5] := h.field Tryz.underlying34 1 rfl cellsInts
  have h8 : Reads w 3 [a8] := h.field Tryz.underlying34 4 rfl cells3
  have h9 : Reads w 3 [a9] := h.field Tryz.underlying34 5 rfl cells3
  have h10 : Reads w 3 [a10] := h.field Tryz.underlying34 6 rfl cells3
  have h0 : Reads w 27 [a0] := hb.field Tryz.underlying30 0 rfl cellsRows
  have h1 : Reads w 3 [a1] := hb.field Tryz.underlying30 1 rfl cells3
  have h2 : Reads w 3 [a2] := hb.field Tryz.underlying30 2 rfl cells3
  have h3 : Reads w 3 [a3] := hb.field Tryz.underlying30 3 rfl cells3
  have h4 : Reads w 28 [a4] := hb.field Tryz.underlying30 4 rfl cellsPols
  obtain ⟨A, n, c, rows, rfl, hnc, hr⟩ := h0.rows
  obtain ⟨x1, rfl, _⟩ := h1.i64
  obtain ⟨x2, rfl, _⟩ := h2.i64
  obtain ⟨x3, rfl, _⟩ := h3.i64
  obtain ⟨A', n', c', pols, rfl, hp, hnm⟩ := h4.pols
  obtain ⟨Af, nf, cf, fl, rfl, hf⟩ := h5.ints
  obtain ⟨x8, rfl, _⟩ := h8.i64
  obtain ⟨x9, rfl, _⟩ := h9.i64
  obtain ⟨x10, rfl, _⟩ := h10.i64
  exact ⟨⟨⟨rows, x1, x2, x3, pols⟩, fl, [], x8, x9, x10⟩, ⟨A, n, c, A', n', c', Af, nf, cf, 0, 0, none, 0, 0, none, 0⟩, a6, a7, rfl, ⟨hr, hp, hf, hnc, hnm⟩⟩

/-- The cells of an aggregate that is well formed for a struct type. -/
theorem agg_of {P : Program} {w : World} {t : TypeId} {fs : Array Field} {b : Nat} {v : Value} (ht : P.underlying t = some (.struct fs)) (h : Value.okWide P w .any b t v) : v = .agg v.cells := by
  obtain ⟨cs, rfl, _⟩ := okWide_struct ht h
  rfl
theorem agg_list {v : Value} {l : List Value} (h : v = .agg v.cells) (hl : v.cells.toList = l) : v = .agg l.toArray := by
  subst hl; exact h

/-! The row. -/
theorem Tryz.own : ownKnob Tryz.prog.godebug = none := by kernel_rfl
theorem Tryz.laidOut : laidOutB Tryz.prog = true := by kernel_rfl

section
variable {H : Type} {enc : TypeId × Value → H}
theorem trodAll_below {W W' : World} (hb : Below W.heap.size W W') : ∀ {ts : List TypeId} {vs : List Value} {ds : List (DataW H)} {ps : List MemPlace}, (∀ t ∈ ts, Tryz.prog.readableRec t = true ∧ t < Tryz.prog.types.size) →
    DataW.TrodAll enc Tryz.prog W 0 (fun _ => true) true ts vs ds ps → (∀ x ∈ ps, x.block < W.heap.size) → DataW.TrodAll enc Tryz.prog W' 0 (fun b => decide (b < W.heap.size)) true ts vs ds ps
  | [], vs, ds, ps, _, h, _ => by
    obtain ⟨rfl, rfl, rfl⟩ := trodAll_nil h
    exact trodAll_mk0
  | t :: ts, vs, ds, ps, hr, h, hlt => by
    obtain ⟨v, vs', d, ds', p, q, rfl, rfl, rfl, h1, h2⟩ := trodAll_cons h
    exact trodAll_cons_mk (Below.trod Tryz.laidOut (hr t (by simp)).1 (hr t (by simp)).2 h1 hb (fun x hx => hlt x (by simp [hx]))) (trodAll_below hb (fun u hu => hr u (by simp [hu])) h2 (fun x hx => hlt x (by simp [hx])))

/-- What a law owes behind its walk. -/
theorem law_post {f : Func} {s : ChangeSpec} {W W' : World} {args : Array Value} {ds gs : List (DataW H)} {before : List MemPlace} (hv : s.vars = []) (hrt : f.resultTypes = #[4])
    (hr : ∀ t ∈ f.params.toList, Tryz.prog.readableRec t = true ∧ t < Tryz.prog.types.size) (hW : DataW.Whole enc Tryz.prog f.params.toList s.vars false W args.toList ds gs before)
    (hfn : s.fn H (ds ++ gs) = { results := [.lit (.bool true)], args := ds }) (hb : Below W.heap.size W W') : s.post enc Tryz.prog f false true false false W args (.bool true) W' := by
  have hlt : ∀ x ∈ before, x.block < W.heap.size := fun x hx => hW.lt x hx
  have hW2 := hW
  obtain ⟨p, q, hA, hV, rfl, _, _⟩ := hW
  rw [hv] at hV
  obtain ⟨rfl, rfl⟩ := trodVars_none hV
  rw [List.append_nil] at hW2 hlt
  refine ⟨ds, [], p, [], p, [], hW2, ?_, ?_, ?_, hb.frame _, fun h => by cases h⟩
  · rw [hfn, hrt]; exact trodAll_mk1 (shut_bool Tryz.underlying4 true)
  · rw [hfn]; exact trodAll_below hb hr hA hlt
  · rw [hfn, hv]; rfl
end
end Go.Proofs.YtjdaigffgfnhaaaGreat
