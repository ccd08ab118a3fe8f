import Derived.Test.YtjdaigffgfnhaaaGreatBb
import Derived.Laws.EntriesVeiled
namespace Go.Proofs.YtjdaigffgfnhaaaGreat
open Go.RowKit

theorem info33 : (Tryz.prog.info? 31).map (fun i => (i.zero, i.size, i.bytes)) = some (some (.slice none 0 0), 1, 24) := by kernel_rfl

/-- The starts found so far lie in rows of their own. -/
def CanL (t : Task) (w : World) (base : Nat) (vs : List Value) : Prop :=
  ∀ (i : Nat) (x : Work) (u : Value), t.works[i]? = some x → vs[i]? = some u → w.ownsRow base 3 1 u (startsF t x).length ((startsF t x).map (Value.int .i64))

/-- A row of slices and a row of numbers are not the same row. -/
theorem own_apart {w : World} {b b' : Nat} {e e' : TypeId} {s s' : Nat} {v v' : Value} {n n' : Nat} {xs xs' : List Value} (h : w.ownsRow b e s v n xs) (h' : w.ownsRow b' e' s' v' n' xs') (hne : e ≠ e') : v.ownBlock = none ∨ v.ownBlock ≠ v'.ownBlock := by
  rcases h.2 with ⟨rfl, _⟩ | ⟨g, cap, cur, rfl, _, hg, _⟩
  · exact .inl rfl
  · rcases h'.2 with ⟨rfl, _⟩ | ⟨g', cap', cur', rfl, _, hg', _⟩
    · exact .inr (by simp [Value.ownBlock])
    · refine .inr fun e0 => ?_
      simp [Value.ownBlock] at e0
      subst e0
      rw [hg] at hg'
      injection hg' with h1
      injection h1 with h1 h2
      exact hne h2

theorem canL_keep {t : Task} {w w' : World} {base : Nat} {vs : List Value} (h : CanL t w base vs) {row : Option Nat} (hg : w.grownBy w' row) (hr : ∀ u, (∃ n xs, w.ownsRow base 3 1 u n xs) → u.ownBlock = none ∨ u.ownBlock ≠ row) : CanL t w' base vs :=
  fun i x u hx hu => (h i x u hx hu).kept hg (hr u ⟨_, _, h i x u hx hu⟩)

theorem canL_snoc {t : Task} {w : World} {base : Nat} {vs : List Value} (h : CanL t w base vs) {x : Work} {u : Value} (hx : t.works[vs.length]? = some x) (hu : w.ownsRow base 3 1 u (startsF t x).length ((startsF t x).map (Value.int .i64))) : CanL t w base (vs ++ [u]) := by
  intro i y v hy hv
  by_cases hi : i < vs.length
  · rw [List.getElem?_append_left hi] at hv
    exact h i y v hy hv
  · have hi2 : i < (vs ++ [u]).length := (List.getElem?_eq_some_iff.1 hv).1
    have e : i = vs.length := by simp at hi2; omega
    subst e
    rw [hx] at hy
    cases hy
    simp at hv
    subst hv
    exact hu

def bestV (a b c : Nat) : Vars := { bn := c + 1 + 1 + 1, bt := a, bp := b, bf := c, bl := c + 1, bs := a + 1, bc := b + 1, bx := c + 1 + 1 + 1 + 1, R := c + 1 + 1 }
theorem bestV_out {a b c k : Nat} (h : k < c) (h2 : k ≠ a + 1) : ¬ (bestV a b c).ex k := by
  rintro (h | h | h | h | h) <;> simp only [bestV] at h <;> omega
theorem bestV_apart {a b c : Nat} (h : a + 1 < b) (h2 : b + 1 < c) : (bestV a b c).Apart := by
  constructor <;> simp only [bestV] <;> omega
theorem blk_mem {w : World} {g : Nat} {t : TypeId} {cs : Array Value} (h : Blk w g t cs) {a : Addr} {v : Value} (ha : w.cell? a = some v) (hb : a.block = g) : ∃ i : Nat, cs[i]? = some v := by
  unfold World.cell? at ha
  rw [hb] at ha
  rw [show w.heap[g]? = some (.cells cs t (0, 0)) from h] at ha
  dsimp only at ha
  split at ha
  · cases ha
  · exact ⟨_, ha⟩
theorem rd_block {α : Type} {enc : α → List Value} {k : Nat} {w : World} {A : Option Addr} {n : Nat} {xs : List α} (h : Rd enc k w A n xs) (hk : ∀ x, ∃ v, (enc x)[0]? = some v) {ad : Addr} (hn : 0 < n) (e : A = some ad) : ∃ x v, (enc x)[0]? = some v ∧ w.cell? ((ad.add (0 * k)).add 0) = some v := by
  have hx : xs[0]? = some (xs[0]'(by have := h.1; omega)) := List.getElem?_eq_getElem _
  obtain ⟨ad', e', ha⟩ := h.2 0 _ hx
  rw [e] at e'
  cases e'
  obtain ⟨v, hv⟩ := hk (xs[0]'(by have := h.1; omega))
  exact ⟨_, v, hv, ha 0 v hv⟩

theorem five (w : World) (x0 x1 x2 x3 x4 : Array Value) (t0 t1 t2 t3 t4 : TypeId) (W : World) (hW : W = ((((w.alloc (.cells x0 t0)).alloc (.cells x1 t1)).alloc (.cells x2 t2)).alloc (.cells x3 t3)).alloc (.cells x4 t4)) :
    Below w.heap.size w W ∧ Blk W w.heap.size t0 x0 ∧ Blk W (w.heap.size + 1) t1 x1 ∧ Blk W (w.heap.size + 1 + 1) t2 x2 ∧ Blk W (w.heap.size + 1 + 1 + 1) t3 x3 ∧ Blk W (w.heap.size + 1 + 1 + 1 + 1) t4 x4 := by
  subst hW
  have h1 : (w.alloc (.cells x0 t0)).heap.size = w.heap.size + 1 := by simp
  have h2 : ((w.alloc (.cells x0 t0)).alloc (.cells x1 t1)).heap.size = w.heap.size + 1 + 1 := by simp
  have h3 : (((w.alloc (.cells x0 t0)).alloc (.cells x1 t1)).alloc (.cells x2 t2)).heap.size = w.heap.size + 1 + 1 + 1 := by simp
  have h4 : ((((w.alloc (.cells x0 t0)).alloc (.cells x1 t1)).alloc (.cells x2 t2)).alloc (.cells x3 t3)).heap.size = w.heap.size + 1 + 1 + 1 + 1 := by simp
  refine ⟨((((((Below.refl _ w).alloc (Nat.le_refl _) _).alloc (by omega) _).alloc (by omega) _).alloc (by omega) _).alloc (by omega) _), ((((Blk.new _ _ _ rfl).alloc _).alloc _).alloc _).alloc _, (((Blk.new _ _ _ h1.symm).alloc _).alloc _).alloc _, ((Blk.new _ _ _ h2.symm).alloc _).alloc _, (Blk.new _ _ _ h3.symm).alloc _, Blk.new _ _ _ h4.symm⟩

theorem best_start (w W2 wr W : World) (t : Task) (p : Nat) (A : Option Addr) (n c : Nat) (A' : Option Addr) (n' c' : Nat) (Ac : Option Addr) (cc : Nat) (vs : List Value) (hn4 : n' ≤ 4) (hR : RdH w A n t.rd.highs) (hR' : RdW w A' n' t.works) (hP : Pl W2 p t A n c A' n' c')
    (B2 : Blk W2 w.heap.size 73 (t.val A n c A' n' c')) (B3 : Blk W2 (w.heap.size + 1) 31 #[.slice none 0 0]) (hBw : Below W2.heap.size W2 wr) (KP : Blk wr W2.heap.size 118 #[.pointer (some ⟨p, 0, none⟩)]) (hC : Blk wr (W2.heap.size + 1) 121 #[.slice Ac n' cc]) (hvs : vs.length = n') (hO : wr.ownsRow (W2.heap.size + 1 + 1) 31 1 (.slice Ac n' cc) n' vs) (hCan : CanL t wr (W2.heap.size + 1 + 1) vs)
    (hW : W = ((((wr.alloc (.cells #[.bool false] 4)).alloc (.cells #[.int .i64 0, .int .i64 0] 66)).alloc (.cells (madeCells #[.int .i64 0] n') 3)).alloc (.cells #[.slice (some ⟨wr.heap.size + 1 + 1, 0, none⟩) 0 n'] 31)).alloc (.cells #[.func (.func 47) #[] (bestV w.heap.size W2.heap.size wr.heap.size).ptrs] 1)) :
    (bestV w.heap.size W2.heap.size wr.heap.size).Apart ∧ Fix (bestV w.heap.size W2.heap.size wr.heap.size) W t p A n c A' n' c' Ac cc ∧ NowM (bestV w.heap.size W2.heap.size wr.heap.size) W n' [] 0 ∧ AccM (bestV w.heap.size W2.heap.size wr.heap.size) W none ∧ Below wr.heap.size wr W := by
  have ha : w.heap.size + 1 < W2.heap.size := B3.lt
  have hb : W2.heap.size + 1 < wr.heap.size := hC.lt
  obtain ⟨f0, f1, f2, f3, f4, f5⟩ := five wr _ _ _ _ _ _ _ _ _ _ W hW
  have hB2W : Below W2.heap.size W2 W := hBw.trans (f0.mono hBw.size)
  refine ⟨bestV_apart ha hb, ?_, ?_, ?_, f0⟩
  · have hout : ∀ k, k < wr.heap.size → k ≠ w.heap.size + 1 → ¬ (bestV w.heap.size W2.heap.size wr.heap.size).ex k := fun k h1 h2 => bestV_out h1 h2
    obtain ⟨S, cap, hb1, hb2⟩ := hP.blk
    have hpn : p ≠ w.heap.size + 1 := fun e => by
      subst e
      have h1 : W2.heap[w.heap.size + 1]? = some (.cells _ 152 (0, 0)) := hb1
      have h2 : W2.heap[w.heap.size + 1]? = some (.cells _ 31 (0, 0)) := B3
      rw [h1] at h2
      injection h2 with h2
      injection h2 with h2 h3
      exact absurd h3 (by decide)
    refine ⟨⟨⟨S, cap, hb1.later hB2W, hb2.below hB2W, ?_⟩, hout _ (by have := hb1.lt; omega) hpn, ⟨hP.highs.below hB2W, ?_⟩, hP.works.below hB2W, ?_⟩, ?_, ?_, ?_, ?_, f5, ?_, ?_, ?_, ?_⟩
    · intro ad hn e
      obtain ⟨x, v, hv, hc⟩ := rd_block hb2 (fun g => by exact ⟨_, List.getElem?_eq_getElem (by simp [seaA_size])⟩) hn e
      refine hout _ (by have := cell_lt hc; rw [block_add, block_add] at this; omega) fun e2 => ?_
      obtain ⟨i, hi⟩ := blk_mem B3 hc (by rw [block_add, block_add]; exact e2)
      have h0 : i = 0 := by have := (Array.getElem?_eq_some_iff.1 hi).1; simp at this; omega
      subst h0
      simp at hi
      subst hi
      have h3 := seaA_get x 365 0 (by omega)
      rw [Array.getElem?_toList, h3] at hv
      cases hv
    · intro ad hn e
      obtain ⟨x, v, hv, hc⟩ := rd_block hR (fun g => ⟨_, rfl⟩) hn e
      have := cell_lt hc
      rw [block_add, block_add] at this
      exact hout _ (by omega) (by omega)
    · intro ad hn e
      obtain ⟨x, v, hv, hc⟩ := rd_block hR' (fun g => ⟨_, rfl⟩) hn e
      have := cell_lt hc
      rw [block_add, block_add] at this
      exact hout _ (by omega) (by omega)
    · intro i x hx
      have hi : i < n' := by have := (List.getElem?_eq_some_iff.1 hx).1; have := hR'.1; omega
      obtain ⟨u, hu⟩ : ∃ u, vs[i]? = some u := ⟨_, List.getElem?_eq_getElem (by omega)⟩
      have hou := hCan i x u hx hu
      obtain ⟨Ai, ci, rfl, hri, _⟩ := rdI_of_own hou rfl
      rcases hO.2 with ⟨_, h0⟩ | ⟨g, cap', cur, h1, h2, h3, h4⟩
      · omega
      · cases h1
        have hgl : g < wr.heap.size := (hO.lt g rfl).2
        refine ⟨⟨g, 0, none⟩, Ai, ci, rfl, hout g hgl (by omega), ?_, hri.below f0, ?_⟩
        · have h5 := hO.cellAt i (by omega)
          rw [hu] at h5
          have h6 := cell_below f0 h5
          have e : (⟨g, 0, none⟩ : Addr).add i = ⟨g, i, none⟩ := by simp [Addr.add]; exact fun h => h.symm
          rw [e]
          exact h6
        · intro ad _ e
          subst e
          have h7 := hou.lt ad.block rfl
          exact hout _ h7.2 (by omega)
    · exact B2.later hB2W
    · exact KP.later f0
    · exact hC.later f0
    · exact hout _ (by show w.heap.size < _; omega) (by show w.heap.size ≠ _; omega)
    · exact hout _ (by show W2.heap.size < _; omega) (by show W2.heap.size ≠ _; omega)
    · exact hout _ (by show W2.heap.size + 1 < _; omega) (by show W2.heap.size + 1 ≠ _; omega)
    · rintro (h | h | h | h | h) <;> simp only [bestV] at h <;> omega
  · refine ⟨f4, by simp, .inr ⟨_, _, _, rfl, Nat.zero_le _, f3, Nat.zero_le _, by unfold maxLen; omega, by rw [size_madeCells, Nat.mul_one], by simp⟩⟩
  · exact ⟨f1, ⟨0, 0, f2, by omega, by omega⟩, _, B3.later hB2W⟩

def BestPost (t : Task) (w : World) (e : Ending) (w' : World) : Prop :=
  Below w.heap.size w w' ∧ match bestF t with
    | none => e = .returned (.tuple #[.slice none 0 0, .agg #[.int .i64 0, .int .i64 0], .int .i64 9])
    | some q => ∃ A c, e = .returned (.tuple #[.slice A q.1.length c, .agg #[.int .i64 q.2.1, .int .i64 q.2.2], .int .i64 0]) ∧ RdI w' A q.1.length q.1

theorem KeepEx.toBelow {ex : Nat → Prop} {w a b : World} {B : Nat} (h : KeepEx ex a b) (hw : Below B w a) (hB : B ≤ a.heap.size) (he : ∀ k, ex k → B ≤ k) : Below B w b :=
  ⟨h.os.trans hw.os, h.tape.trans hw.tape, h.output.trans hw.output, Nat.le_trans hw.size h.size, fun i hi => (h.block i (by omega) (fun e => by have := he i e; omega)).trans (hw.block i hi)⟩
end Go.Proofs.YtjdaigffgfnhaaaGreat
