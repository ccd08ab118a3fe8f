/- What the arguments of a law read as, within the reach. -/
import Derived.Test.YtadldndpphdmpaaGreatRows
import Derived.Test.YtadldndpphdmpaaGreatQC
import Derived.Test.YtadldndpphdmpaaGreatJ1
import Derived.ProofKit
import Derived.Deep.Slices
import Derived.OpenShut
import Derived.SizedLaws
namespace Go.Proofs.YtadldndpphdmpaaGreat
open Go.ChangeShapes Go.WideShapes Go.RowKit Go.Deep

/-- Some cells can be read as data of a type, within the reach. -/
def Reads (w : World) (t : TypeId) (cs : List Value) : Prop :=
  ∃ (H : Type) (enc : TypeId × Value → H) (fuel : Nat) (x : DataW H × List MemPlace), DataW.trod enc Tryz.prog w 0 (fun _ => true) true fuel t cs = some x ∧ ∀ m ∈ x.1.weights Tryz.prog t, m ≤ reachBytes

theorem reads_of {H : Type} {enc : TypeId × Value → H} {w : World} {t : TypeId} {v : Value} {d : DataW H} {p : List MemPlace} (h : DataW.Trod enc Tryz.prog w 0 (fun _ => true) true t v d p) (hw : ∀ m ∈ d.weights Tryz.prog t, m ≤ reachBytes) : Reads w t v.cells.toList := by
  obtain ⟨fuel, hf⟩ := h
  exact ⟨H, enc, fuel, _, hf, hw⟩
theorem weights_all {H : Type} {P : Program} {e : TypeId} {d : DataW H} : ∀ {l : List (DataW H)}, d ∈ l → ∀ n ∈ d.weights P e, n ∈ DataW.weightsAll P e l
  | [], h, _, _ => by simp at h
  | a :: r, h, n, hn => by
    simp only [DataW.weightsAll, List.mem_append]
    rcases List.mem_cons.1 h with rfl | h
    · exact .inl hn
    · exact .inr (weights_all h n hn)
/-- The weights of one of the arguments. -/
theorem weights_arg {H : Type} {ts : List TypeId} {ds : List (DataW H)} (h : (DataW.weightsEach Tryz.prog ts ds).all (· ≤ reachBytes) = true) {j : Nat} {t : TypeId} {d : DataW H} (ht : ts[j]? = some t) (hd : ds[j]? = some d) : ∀ m ∈ d.weights Tryz.prog t, m ≤ reachBytes := fun m hm => by
  have := List.all_eq_true.1 h m (DataW.weights_mem_each ht hd m hm)
  simpa using this

theorem Reads.int {w : World} {t : TypeId} {cs : List Value} {k : IntKind} (ht : Tryz.prog.underlying t = some (.int k)) (h : Reads w t cs) : ∃ n, cs = [.int k n] ∧ (Lit.int k n).wf = true := by
  obtain ⟨H, enc, fuel, x, hx, _⟩ := h
  obtain ⟨n, h1, _, h3⟩ := DataW.trod_int ht hx
  exact ⟨n, h1, h3⟩
theorem Reads.string {w : World} {t : TypeId} {cs : List Value} (ht : Tryz.prog.underlying t = some .string) (h : Reads w t cs) : ∃ s : ByteArray, cs = [.string s] ∧ s.size ≤ maxLen := by
  obtain ⟨H, enc, fuel, x, hx, _⟩ := h
  obtain ⟨n, h1, _, h3⟩ := DataW.trod_string ht hx
  exact ⟨n, h1, h3⟩
theorem Reads.struct {w : World} {t : TypeId} {cs : List Value} {fs : Array Field} (ht : Tryz.prog.underlying t = some (.struct fs)) (h : Reads w t cs) :
    cs.length = Tryz.prog.cellsOf t ∧ ∀ (i : Nat) (f : Field), fs[i]? = some f → Reads w f.type ((cs.drop f.offset).take (Tryz.prog.cellsOf f.type)) := by
  obtain ⟨H, enc, fuel, x, hx, hw⟩ := h
  obtain ⟨xs, n, _, rfl, hl, hxl, hf⟩ := DataW.trod_struct ht hx
  refine ⟨hl, fun i f hi => ?_⟩
  have hil : i < fs.size := (Array.getElem?_eq_some_iff.1 hi).1
  have hxi : xs[i]? = some (xs[i]'(by omega)) := List.getElem?_eq_getElem (by omega)
  refine ⟨H, enc, n, xs[i]'(by omega), (hf i f hi).trans hxi, fun m hm => hw m ?_⟩
  simp only [DataW.weights, ht]
  exact DataW.weights_mem_each (j := i) (t := f.type) (by rw [List.getElem?_map, Array.getElem?_toList, hi]; rfl) (by rw [List.getElem?_map, hxi]; rfl) m hm
theorem Reads.array {w : World} {t e : TypeId} {cs : List Value} {n : Nat} (ht : Tryz.prog.underlying t = some (.array n e)) (h : Reads w t cs) :
    cs.length = Tryz.prog.cellsOf t ∧ ∀ (i : Nat), i < n → Reads w e ((cs.drop (i * Tryz.prog.cellsOf e)).take (Tryz.prog.cellsOf e)) := by
  obtain ⟨H, enc, fuel, x, hx, hw⟩ := h
  obtain ⟨xs, m, _, rfl, hl, hxl, hf⟩ := DataW.trod_array ht hx
  refine ⟨hl, fun i hi => ?_⟩
  have hxi : xs[i]? = some (xs[i]'(by omega)) := List.getElem?_eq_getElem (by omega)
  refine ⟨H, enc, m, xs[i]'(by omega), (hf i hi).trans hxi, fun q hq => hw q ?_⟩
  simp only [DataW.weights, ht]
  exact weights_all (List.mem_map.2 ⟨_, List.mem_of_getElem? hxi, rfl⟩) q hq
theorem Reads.slice {w : World} {t e : TypeId} {cs : List Value} (ht : Tryz.prog.underlying t = some (.slice e)) (h : Reads w t cs) :
    ∃ (A : Option Addr) (n c : Nat), cs = [.slice A n c] ∧ n ≤ c ∧ c ≤ maxLen ∧ n * Tryz.prog.bytesOf e ≤ reachBytes ∧ ∀ i, i < n → ∃ ad cs', A = some ad ∧ cs'.length = Tryz.prog.cellsOf e ∧ At w (ad.add (i * Tryz.prog.cellsOf e)) cs' ∧ Reads w e cs' := by
  obtain ⟨H, enc, fuel, x, hx, hw⟩ := h
  rcases open_slice ht hx with ⟨rfl, _⟩ | ⟨a, len, cap, m, n, D, Pl, rfl, _, hl, hm, hmm, rfl, hi⟩
  · exact ⟨none, 0, 0, rfl, Nat.le_refl _, Nat.zero_le _, by simp, fun i h => by omega⟩
  · simp only [DataW.weights, ht] at hw
    have hlm : len ≤ m := by rw [hmm]; split <;> omega
    have hb := hw _ (List.mem_cons_self ..)
    simp only [List.length_map, List.length_range] at hb
    refine ⟨some a, len, cap, rfl, hl, hm, Nat.le_trans (Nat.mul_le_mul_right _ (by omega)) hb, fun i hil => ?_⟩
    obtain ⟨cs', hc, ht'⟩ := hi i (by omega)
    obtain ⟨_, hcl, hat⟩ := World.cells?_some hc
    refine ⟨a, cs', rfl, hcl, fun j v hj => ?_, H, enc, n, _, ht', fun q hq => hw q ?_⟩
    · have hjl := (List.getElem?_eq_some_iff.1 hj).1
      rw [hat j (by omega)]
      exact hj
    · exact List.mem_cons_of_mem _ (List.mem_append_left _ (weights_all (List.mem_map.2 ⟨i, List.mem_range.2 hil, rfl⟩) q hq))

theorem rd_of_reads {α : Type} {enc : α → List Value} {k : Nat} {w : World} {A : Option Addr} : ∀ {n : Nat}, (∀ i, i < n → ∃ ad x, A = some ad ∧ At w (ad.add (i * k)) (enc x)) → ∃ xs, Rd enc k w A n xs
  | 0, _ => ⟨[], Rd.nil⟩
  | n + 1, h => by
    obtain ⟨xs, hxl, hx⟩ := rd_of_reads (n := n) (fun i hi => h i (by omega))
    obtain ⟨ad, x, h1, h2⟩ := h n (by omega)
    refine ⟨xs ++ [x], by simp [hxl], fun i y hy => ?_⟩
    by_cases hi : i < n
    · rw [List.getElem?_append_left (by omega)] at hy
      exact hx i y hy
    · have hil := (List.getElem?_eq_some_iff.1 hy).1
      simp at hil
      obtain rfl : i = n := by omega
      rw [List.getElem?_append_right (by omega), hxl] at hy
      simp at hy
      subst hy
      exact ⟨ad, h1, h2⟩
theorem len1 {α : Type} {l : List α} (h : l.length = 1) : ∃ a, l = [a] := by
  match l, h with
  | [a], _ => exact ⟨a, rfl⟩
theorem len2 {α : Type} {l : List α} (h : l.length = 2) : ∃ a b, l = [a, b] := by
  match l, h with
  | [a, b], _ => exact ⟨a, b, rfl⟩
theorem len3 {α : Type} {l : List α} (h : l.length = 3) : ∃ a b c, l = [a, b, c] := by
  match l, h with
  | [a, b, c], _ => exact ⟨a, b, c, rfl⟩
theorem len4 {α : Type} {l : List α} (h : l.length = 4) : ∃ a b c d, l = [a, b, c, d] := by
  match l, h with
  | [a, b, c, d], _ => exact ⟨a, b, c, d, rfl⟩
theorem len5 {α : Type} {l : List α} (h : l.length = 5) : ∃ a b c d e, l = [a, b, c, d, e] := by
  match l, h with
  | [a, b, c, d, e], _ => exact ⟨a, b, c, d, e, rfl⟩

/-- An integer within its 64 bits. -/
def I64 (n : Int) : Prop := -9223372036854775808 ≤ n ∧ n ≤ 9223372036854775807
theorem Reads.i64 {w : World} {v : Value} (h : Reads w 3 [v]) : ∃ n, v = .int .i64 n ∧ I64 n := by
  obtain ⟨n, hn, hw⟩ := h.int Tryz.underlying3
  simp at hn
  simp [Lit.wf, IntKind.min, IntKind.max, IntKind.signed, IntKind.bits] at hw
  exact ⟨n, hn, hw⟩
theorem Reads.u8 {w : World} {v : Value} (h : Reads w 5 [v]) : ∃ n, v = .int .u8 n ∧ 0 ≤ n ∧ n ≤ 255 := by
  obtain ⟨n, hn, hw⟩ := h.int Tryz.underlying5
  simp at hn
  simp [Lit.wf, IntKind.min, IntKind.max, IntKind.signed, IntKind.bits] at hw
  exact ⟨n, hn, hw⟩
theorem Reads.field {w : World} {t : TypeId} {cs : List Value} {fs : Array Field} (ht : Tryz.prog.underlying t = some (.struct fs)) (h : Reads w t cs) (i : Nat) {u : TypeId} {off k : Nat}
    (hi : (fs[i]?).map (fun f => (f.type, f.offset)) = some (u, off)) (hk : Tryz.prog.cellsOf u = k) : Reads w u ((cs.drop off).take k) := by
  cases hf : fs[i]? with
  | none => rw [hf] at hi; cases hi
  | some f =>
    rw [hf] at hi
    simp at hi
    obtain ⟨rfl, rfl⟩ := hi
    have := (h.struct ht).2 i f hf
    rw [hk] at this
    exact this
theorem Reads.len {w : World} {t : TypeId} {cs : List Value} {fs : Array Field} (ht : Tryz.prog.underlying t = some (.struct fs)) (h : Reads w t cs) {k : Nat} (hk : Tryz.prog.cellsOf t = k) : cs.length = k := (h.struct ht).1.trans hk

theorem cellsInt : Tryz.prog.cellsOf 3 = 1 := by kernel_rfl
theorem cellsU8 : Tryz.prog.cellsOf 5 = 1 := by kernel_rfl
theorem cellsStr : Tryz.prog.cellsOf 9 = 1 := by kernel_rfl
theorem cellsInts : Tryz.prog.cellsOf 38 = 1 := by kernel_rfl
theorem cellsNode : Tryz.prog.cellsOf 40 = 5 := by kernel_rfl
theorem cellsNodes : Tryz.prog.cellsOf 22 = 1 := by kernel_rfl
theorem cellsTree : Tryz.prog.cellsOf 24 = 1 := by kernel_rfl
theorem cellsSpan : Tryz.prog.cellsOf 84 = 3 := by kernel_rfl
theorem cellsTwo : Tryz.prog.cellsOf 33 = 2 := by kernel_rfl
theorem bytesInt : Tryz.prog.bytesOf 3 = 8 := by kernel_rfl
theorem bytesNode : Tryz.prog.bytesOf 40 = 64 := by kernel_rfl
theorem bytesSpan : Tryz.prog.bytesOf 84 = 24 := by kernel_rfl

theorem Reads.ints {w : World} {v : Value} (h : Reads w 38 [v]) : ∃ (A : Option Addr) (c : Nat) (xs : List Int), v = .slice A xs.length c ∧ xs.length ≤ c ∧ c ≤ maxLen ∧ xs.length * 8 ≤ reachBytes ∧ RdI w A xs.length xs ∧ ∀ x ∈ xs, I64 x := by
  obtain ⟨A, n, c, e, h1, h2, h3, hi⟩ := h.slice Tryz.underlying38
  simp at e
  obtain ⟨ys, hy⟩ := rd_of_reads (enc := fun x : { x : Int // I64 x } => [Value.int .i64 x.1]) (k := 1) (w := w) (A := A) (n := n) (fun i hin => by
    obtain ⟨ad, cs', e, hl, ha, hr⟩ := hi i hin
    rw [cellsInt] at ha hl
    obtain ⟨a, rfl⟩ := len1 hl
    obtain ⟨x, rfl, hx⟩ := hr.i64
    exact ⟨ad, ⟨x, hx⟩, e, ha⟩)
  have hl : (ys.map (·.1)).length = n := by rw [List.length_map]; exact hy.1
  rw [bytesInt] at h3
  refine ⟨A, c, ys.map (·.1), by rw [hl]; exact e, by rw [hl]; exact h1, h2, by rw [hl]; exact h3, ⟨rfl, fun i x hx => ?_⟩, fun x hx => ?_⟩
  · rw [List.getElem?_map, Option.map_eq_some_iff] at hx
    obtain ⟨z, hz, rfl⟩ := hx
    exact hy.2 i z hz
  · rw [List.mem_map] at hx
    obtain ⟨z, _, rfl⟩ := hx
    exact z.2
theorem Reads.node {w : World} {cs : List Value} (h : Reads w 40 cs) : ∃ m : NdM, cs = NdM.enc m ∧ NdR w m := by
  obtain ⟨a, b, c, d, e, rfl⟩ := len5 (h.len Tryz.underlying40 cellsNode)
  have h0 : Reads w 9 [a] := h.field Tryz.underlying40 0 rfl cellsStr
  have h1 : Reads w 3 [b] := h.field Tryz.underlying40 1 rfl cellsInt
  have h2 : Reads w 38 [c] := h.field Tryz.underlying40 2 rfl cellsInts
  have h3 : Reads w 3 [d] := h.field Tryz.underlying40 3 rfl cellsInt
  have h4 : Reads w 3 [e] := h.field Tryz.underlying40 4 rfl cellsInt
  obtain ⟨s, hs, hsz⟩ := h0.string Tryz.underlying9
  simp at hs
  subst hs
  obtain ⟨x1, rfl, _⟩ := h1.i64
  obtain ⟨A, c', xs, rfl, k1, k2, k3, hr, _⟩ := h2.ints
  obtain ⟨x3, rfl, _⟩ := h3.i64
  obtain ⟨x4, rfl, _⟩ := h4.i64
  refine ⟨⟨⟨s, x1, xs, x3, x4⟩, A, c'⟩, rfl, ⟨hr, ?_, k1, ?_⟩⟩
  · show xs.length ≤ _
    unfold reachBytes at k3
    omega
  · show s.size ≤ _
    unfold maxLen at hsz
    omega
theorem Reads.tree {w : World} {cs : List Value} (h : Reads w 24 cs) : ∃ (t : List Nd) (A : Option Addr) (n c : Nat) (ms : List NdM), cs = [.slice A n c] ∧ n ≤ c ∧ TrM w t A n ms := by
  obtain ⟨a, rfl⟩ := len1 (h.len Tryz.underlying24 cellsTree)
  have h0 : Reads w 22 [a] := h.field Tryz.underlying24 0 rfl cellsNodes
  obtain ⟨A, n, c, e, h1, h2, h3, hi⟩ := h0.slice Tryz.underlying22
  obtain ⟨ys, hy⟩ := rd_of_reads (enc := fun x : { x : NdM // NdR w x } => NdM.enc x.1) (k := 5) (w := w) (A := A) (n := n) (fun i hin => by
    obtain ⟨ad, cs', e, hl, ha, hr⟩ := hi i hin
    rw [cellsNode] at ha hl
    obtain ⟨m, rfl, hm⟩ := hr.node
    exact ⟨ad, ⟨m, hm⟩, e, ha⟩)
  rw [bytesNode] at h3
  refine ⟨(ys.map (·.1)).map (·.nd), A, n, c, ys.map (·.1), e, h1, ⟨⟨by rw [List.length_map]; exact hy.1, fun i x hx => ?_⟩, rfl, fun m hm => ?_, by unfold reachBytes at h3; omega⟩⟩
  · rw [List.getElem?_map, Option.map_eq_some_iff] at hx
    obtain ⟨z, hz, rfl⟩ := hx
    exact hy.2 i z hz
  · rw [List.mem_map] at hm
    obtain ⟨z, _, rfl⟩ := hm
    exact z.2
theorem Reads.two {w : World} {cs : List Value} (h : Reads w 33 cs) : ∃ a b : Int, cs = [.int .i64 a, .int .i64 b] ∧ I64 a ∧ I64 b := by
  obtain ⟨hl, hi⟩ := h.array Tryz.underlying33
  rw [cellsTwo] at hl
  obtain ⟨a, b, rfl⟩ := len2 hl
  rw [cellsInt] at hi
  have h0 : Reads w 3 [a] := hi 0 (by omega)
  have h1 : Reads w 3 [b] := hi 1 (by omega)
  obtain ⟨x0, rfl, b0⟩ := h0.i64
  obtain ⟨x1, rfl, b1⟩ := h1.i64
  exact ⟨x0, x1, rfl, b0, b1⟩
theorem Reads.span {w : World} {cs : List Value} (h : Reads w 84 cs) : ∃ s : Sp, cs = Sp.enc s ∧ I64 s.nd ∧ I64 s.a ∧ I64 s.b := by
  obtain ⟨a, b, c, rfl⟩ := len3 (h.len Tryz.underlying84 cellsSpan)
  have h0 : Reads w 3 [a] := h.field Tryz.underlying84 0 rfl cellsInt
  have h1 : Reads w 3 [b] := h.field Tryz.underlying84 1 rfl cellsInt
  have h2 : Reads w 3 [c] := h.field Tryz.underlying84 2 rfl cellsInt
  obtain ⟨x0, rfl, b0⟩ := h0.i64
  obtain ⟨x1, rfl, b1⟩ := h1.i64
  obtain ⟨x2, rfl, b2⟩ := h2.i64
  exact ⟨⟨x0, x1, x2⟩, rfl, b0, b1, b2⟩
theorem Reads.spans {w : World} {v : Value} (h : Reads w 82 [v]) : ∃ (A : Option Addr) (c : Nat) (xs : List Sp), v = .slice A xs.length c ∧ xs.length ≤ c ∧ c ≤ maxLen ∧ xs.length * 24 ≤ reachBytes ∧ RdS w A xs.length xs ∧ ∀ x ∈ xs, I64 x.nd ∧ I64 x.a ∧ I64 x.b := by
  obtain ⟨A, n, c, e, h1, h2, h3, hi⟩ := h.slice Tryz.underlying82
  simp at e
  obtain ⟨ys, hy⟩ := rd_of_reads (enc := fun x : { x : Sp // I64 x.nd ∧ I64 x.a ∧ I64 x.b } => Sp.enc x.1) (k := 3) (w := w) (A := A) (n := n) (fun i hin => by
    obtain ⟨ad, cs', e, hl, ha, hr⟩ := hi i hin
    rw [cellsSpan] at ha hl
    obtain ⟨x, rfl, hx⟩ := hr.span
    exact ⟨ad, ⟨x, hx⟩, e, ha⟩)
  have hl : (ys.map (·.1)).length = n := by rw [List.length_map]; exact hy.1
  rw [bytesSpan] at h3
  refine ⟨A, c, ys.map (·.1), by rw [hl]; exact e, by rw [hl]; exact h1, h2, by rw [hl]; exact h3, ⟨rfl, fun i x hx => ?_⟩, fun x hx => ?_⟩
  · rw [List.getElem?_map, Option.map_eq_some_iff] at hx
    obtain ⟨z, hz, rfl⟩ := hx
    exact hy.2 i z hz
  · rw [List.mem_map] at hx
    obtain ⟨z, _, rfl⟩ := hx
    exact z.2
/-- The cells of an aggregate that is well formed for a struct type, or an array type. -/
theorem agg_of {P : Program} {w : World} {t : TypeId} {fs : Array Field} {b : Nat} {v : Value} (ht : P.underlying t = some (.struct fs)) (h : Value.okWide P w .any b t v) : v = .agg v.cells := by
  obtain ⟨cs, rfl, _⟩ := okWide_struct ht h
  rfl
theorem okWide_array {P : Program} {w : World} {r : Reach} {base : Nat} {t e : TypeId} {n : Nat} {v : Value} (ht : P.underlying t = some (.array n e)) (h : Value.okWide P w r base t v) : ∃ cs, v = .agg cs := by
  simp only [Value.okWide, ht] at h
  obtain ⟨cs, h1, _⟩ := h
  exact ⟨cs, h1⟩
theorem arr_of {P : Program} {w : World} {t e : TypeId} {n : Nat} {b : Nat} {v : Value} (ht : P.underlying t = some (.array n e)) (h : Value.okWide P w .any b t v) : v = .agg v.cells := by
  obtain ⟨cs, rfl⟩ := okWide_array ht h
  rfl
theorem agg_list {v : Value} {l : List Value} (h : v = .agg v.cells) (hl : v.cells.toList = l) : v = .agg l.toArray := by
  subst hl; exact h
/-- A value of one cell is that cell. -/
theorem one_int {P : Program} {w : World} {t : TypeId} {k : IntKind} {v : Value} {b : Nat} (ht : P.underlying t = some (.int k)) (h : Value.okWide P w .any b t v) : v.cells.toList = [v] := by
  obtain ⟨n, rfl⟩ := okWide_int ht h
  rfl
theorem one_slice {P : Program} {w : World} {t e : TypeId} {v : Value} {b : Nat} (ht : P.underlying t = some (.slice e)) (h : Value.okWide P w .any b t v) : v.cells.toList = [v] := by
  obtain ⟨a, l, c, rfl⟩ := okWide_slice ht h
  rfl

/-! The row. -/
theorem Tryz.own : ownKnob Tryz.prog.godebug = none := by kernel_rfl
theorem Tryz.laidOut : laidOutB Tryz.prog = true := by kernel_rfl

section
variable {H : Type} {enc : TypeId × Value → H}
theorem trodAll_below {W W' : World} (hb : Below W.heap.size W W') : ∀ {ts : List TypeId} {vs : List Value} {ds : List (DataW H)} {ps : List MemPlace}, (∀ t ∈ ts, Tryz.prog.readableRec t = true ∧ t < Tryz.prog.types.size) →
    DataW.TrodAll enc Tryz.prog W 0 (fun _ => true) true ts vs ds ps → (∀ x ∈ ps, x.block < W.heap.size) → DataW.TrodAll enc Tryz.prog W' 0 (fun b => decide (b < W.heap.size)) true ts vs ds ps
  | [], vs, ds, ps, _, h, _ => by
    obtain ⟨rfl, rfl, rfl⟩ := trodAll_nil h
    exact trodAll_mk0
  | t :: ts, vs, ds, ps, hr, h, hlt => by
    obtain ⟨v, vs', d, ds', p, q, rfl, rfl, rfl, h1, h2⟩ := trodAll_cons h
    exact trodAll_cons_mk (Below.trod Tryz.laidOut (hr t (by simp)).1 (hr t (by simp)).2 h1 hb (fun x hx => hlt x (by simp [hx]))) (trodAll_below hb (fun u hu => hr u (by simp [hu])) h2 (fun x hx => hlt x (by simp [hx])))

/-- What a law owes behind its walk. -/
theorem law_post {f : Func} {s : ChangeSpec} {W W' : World} {args : Array Value} {ds gs : List (DataW H)} {before : List MemPlace} (hv : s.vars = []) (hrt : f.resultTypes = #[4])
    (hr : ∀ t ∈ f.params.toList, Tryz.prog.readableRec t = true ∧ t < Tryz.prog.types.size) (hW : DataW.Whole enc Tryz.prog f.params.toList s.vars false W args.toList ds gs before)
    (hfn : s.fn H (ds ++ gs) = { results := [.lit (.bool true)], args := ds }) (hb : Below W.heap.size W W') : s.post enc Tryz.prog f false true false false W args (.bool true) W' := by
  have hlt : ∀ x ∈ before, x.block < W.heap.size := fun x hx => hW.lt x hx
  have hW2 := hW
  obtain ⟨p, q, hA, hV, rfl, _, _⟩ := hW
  rw [hv] at hV
  obtain ⟨rfl, rfl⟩ := trodVars_none hV
  rw [List.append_nil] at hW2 hlt
  refine ⟨ds, [], p, [], p, [], hW2, ?_, ?_, ?_, hb.frame _, fun h => by cases h⟩
  · rw [hfn, hrt]; exact trodAll_mk1 (shut_bool Tryz.underlying4 true)
  · rw [hfn]; exact trodAll_below hb hr hA hlt
  · rw [hfn, hv]; rfl
end
end Go.Proofs.YtadldndpphdmpaaGreat
