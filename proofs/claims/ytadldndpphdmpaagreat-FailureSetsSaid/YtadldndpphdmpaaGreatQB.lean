/- Laws of the walk: regions in an order that is given, rows, appends. -/
import Derived.WalkKit
import Derived.WalkSpells
import Derived.WalkLawsBesides
import Derived.Lib.Hide
import Derived.Deep.RegionHeld3
import Derived.BigQuiet
import Derived.RangeFuncNested
import Derived.RangeFuncBound
import Derived.RangeFuncCalls
import Derived.RangeFuncLeaves
import Derived.Shelf.Abstract
import Derived.OwnWalkIn
import Derived.TacticsInMore
import Derived.LoopNIn
import Derived.LoopIn
import Derived.Maps.OwnIn
import Derived.StillTail
import Derived.OrdersHeld
import Derived.OrdersIn
import Derived.Lib.QuietBelow
namespace Go.Proofs.YtadldndpphdmpaaGreat
open Go.RowKit

/-- The cells of a list of values, from an address on. -/
def At (w : World) (p : Addr) (vs : List Value) : Prop := ∀ j v, vs[j]? = some v → w.cell? (p.add j) = some v

theorem cell_lt {w : World} {p : Addr} {v : Value} (h : w.cell? p = some v) : p.block < w.heap.size := by
  rcases Nat.lt_or_ge p.block w.heap.size with hl | hg
  · exact hl
  · unfold World.cell? at h
    rw [Array.getElem?_eq_none hg] at h
    cases h

theorem At.below {w w' : World} {p : Addr} {vs : List Value} (h : At w p vs) (hb : Below w.heap.size w w') : At w' p vs :=
  fun j v hj => (hb.cell (cell_lt (h j v hj))).trans (h j v hj)

/-- A slice whose elements, each of k cells, read as a list. -/
def Rd {α : Type} (enc : α → List Value) (k : Nat) (w : World) (A : Option Addr) (n : Nat) (xs : List α) : Prop :=
  xs.length = n ∧ ∀ i x, xs[i]? = some x → ∃ ad, A = some ad ∧ At w (ad.add (i * k)) (enc x)

theorem Rd.below {α : Type} {enc : α → List Value} {k : Nat} {w w' : World} {A : Option Addr} {n : Nat} {xs : List α} (h : Rd enc k w A n xs) (hb : Below w.heap.size w w') : Rd enc k w' A n xs :=
  ⟨h.1, fun i x hx => by
    obtain ⟨ad, e, ha⟩ := h.2 i x hx
    exact ⟨ad, e, ha.below hb⟩⟩

theorem Rd.nil {α : Type} {enc : α → List Value} {k : Nat} {w : World} {A : Option Addr} : Rd enc k w A 0 [] := ⟨rfl, fun i x h => by simp at h⟩

theorem Rd.take {α : Type} {enc : α → List Value} {k : Nat} {w : World} {A : Option Addr} {n : Nat} {xs : List α} (h : Rd enc k w A n xs) {m : Nat} (hm : m ≤ n) : Rd enc k w A m (xs.take m) :=
  ⟨by rw [List.length_take, h.1]; omega, fun i x hx => by
    have hi : i < m := by
      have := (List.getElem?_eq_some_iff.1 hx).1
      rw [List.length_take] at this
      omega
    rw [List.getElem?_take_of_lt hi] at hx
    exact h.2 i x hx⟩

theorem Rd.get {α : Type} {enc : α → List Value} {k : Nat} {w : World} {A : Option Addr} {n : Nat} {xs : List α} (h : Rd enc k w A n xs) {i : Nat} (hi : i < n) :
    ∃ (x : α) (ad : Addr), xs[i]? = some x ∧ A = some ad ∧ At w (ad.add (i * k)) (enc x) := by
  have hl : i < xs.length := by rw [h.1]; exact hi
  obtain ⟨ad, e, ha⟩ := h.2 i xs[i] (List.getElem?_eq_getElem hl)
  exact ⟨xs[i], ad, List.getElem?_eq_getElem hl, e, ha⟩

theorem At.three {w : World} {p : Addr} {a b c : Value} (h : At w p [a, b, c]) :
    w.cell? p = some a ∧ w.cell? ⟨p.block, p.off + 1, none⟩ = some b ∧ w.cell? ⟨p.block, p.off + 2, none⟩ = some c :=
  ⟨h 0 a rfl, h 1 b rfl, h 2 c rfl⟩

theorem bcell {W w1 : World} (hb : Below W.heap.size W w1) : (∀ b o, b < W.heap.size → w1.cell? ⟨b, o, none⟩ = W.cell? ⟨b, o, none⟩) ∧ (∀ b o, b < W.heap.size → w1.frozen? ⟨b, o, none⟩ = W.frozen? ⟨b, o, none⟩) :=
  ⟨fun b o h => hb.cell (p := ⟨b, o, none⟩) h, fun b o h => hb.frozen (p := ⟨b, o, none⟩) h⟩

theorem below_drewN' {B : Nat} {a w : World} (h : Below B a w) (n : Nat) : Below B a (w.drewN n) := ⟨h.os, h.tape, h.output, h.size, h.block⟩

theorem all_succ {P : Nat → Prop} {k : Nat} (h : ∀ j, j < k → P j) (hk : P k) : ∀ j, j < k + 1 → P j := fun j hj => by
  rcases Nat.lt_or_ge j k with h' | h'
  · exact h j h'
  · have e : j = k := by omega
    rw [e]; exact hk

/-- The worlds in which all that lay in W lies as it lay. -/
structure Later (W : World) where
  w : World
  h : Below W.heap.size W w

instance (W : World) : Nonempty (Later W) := ⟨⟨W, Below.refl _ _⟩⟩

theorem later_cell {W : World} {p : Addr} {v : Value} (h : W.cell? p = some v) : ∀ u : Later W, u.w.cell? p = some v := fun u => (u.h.cell (cell_lt h)).trans h

theorem later_calls {P : Program} {f : FuncId} {args : Array Value} {W : World} {u : Later W} {v : Value}
    (h : Calls P f args u.w fun e w' => e = .returned v ∧ Below u.w.heap.size u.w w') : Calls P f args u.w fun e w' => e = .returned v ∧ ∃ u' : Later W, w' = u'.w :=
  h.mono fun _ w' ⟨he, hb⟩ => ⟨he, ⟨w', u.h.trans (hb.mono u.h.size)⟩, rfl⟩
theorem later_same {P : Program} {f : FuncId} {args : Array Value} {W : World} {u : Later W} {v : Value}
    (h : Calls P f args u.w fun e w' => e = .returned v ∧ u.w = w') : Calls P f args u.w fun e w' => e = .returned v ∧ ∃ u' : Later W, w' = u'.w :=
  h.mono fun _ _ ⟨he, hb⟩ => ⟨he, u, hb.symm⟩

/-- A region that draws its order, whose operations read and whose calls leave what lay: one walk in the order of the text. -/
theorem wp_region_later {P : Program} {id : Nat} {Q : Exit → Act → World → Prop} {a : Act} {w : World} {l : List Oper} (hm : P.follows .mixedOrders = true) (hB : Region.lexB .any l.toArray = true)
    (h : wpQuiet P l.toArray (fun w' => ∃ u : Later w, w' = u.w) (fun a' => ∀ w', (∃ u : Later w, w' = u.w) → Q .normal a' w') l a) : (Code.region id l.toArray true).wp P Q a w :=
  wp_region_quiet (C := fun w' => ∃ u : Later w, w' = u.w) hm hB ⟨⟨w.drew, (Below.refl _ _).drew⟩, rfl⟩ (by simpa using h)

theorem cell_alloc {w : World} {p : Addr} {v : Value} (h : w.cell? p = some v) (o : Obj) : (w.alloc o).cell? p = some v :=
  (((Below.refl _ w).alloc (Nat.le_refl _) o).cell (cell_lt h)).trans h
theorem cell_below {w w' : World} {p : Addr} {v : Value} (hb : Below w.heap.size w w') (h : w.cell? p = some v) : w'.cell? p = some v := (hb.cell (cell_lt h)).trans h

/-- A block that is known whole. -/
def Blk (w : World) (g : Nat) (t : TypeId) (cs : Array Value) : Prop := w.heap[g]? = some (.cells cs t (0, 0))
theorem Blk.lt {w : World} {g : Nat} {t : TypeId} {cs : Array Value} (h : Blk w g t cs) : g < w.heap.size := (Array.getElem?_eq_some_iff.1 h).1
theorem Blk.cell {w : World} {g : Nat} {t : TypeId} {cs : Array Value} (h : Blk w g t cs) {i : Nat} {v : Value} (hi : cs[i]? = some v) : w.cell? ⟨g, i, none⟩ = some v := by
  unfold World.cell?; rw [show w.heap[g]? = _ from h]; exact hi
theorem Blk.frozen {w : World} {g : Nat} {t : TypeId} {cs : Array Value} (h : Blk w g t cs) (i : Nat) : w.frozen? ⟨g, i, none⟩ = false := by
  unfold World.frozen?; simp [show w.heap[g]? = _ from h]
theorem Blk.new (w : World) (t : TypeId) (cs : Array Value) {b : Nat} (hb : b = w.heap.size) : Blk (w.alloc (.cells cs t)) b t cs := by
  subst hb; exact heap_alloc_new w _
theorem Blk.alloc {w : World} {g : Nat} {t : TypeId} {cs : Array Value} (h : Blk w g t cs) (o : Obj) : Blk (w.alloc o) g t cs := (Below.heap_alloc w o g h.lt).trans h
theorem Blk.below {w w' : World} {g : Nat} {t : TypeId} {cs : Array Value} {B : Nat} (h : Blk w g t cs) (hb : Below B w w') (hg : g < B) : Blk w' g t cs := (hb.block g hg).trans h
theorem Blk.later {w w' : World} {g : Nat} {t : TypeId} {cs : Array Value} (h : Blk w g t cs) (hb : Below w.heap.size w w') : Blk w' g t cs := (hb.block g h.lt).trans h
theorem Blk.grown {w w' : World} {g : Nat} {t : TypeId} {cs : Array Value} {row : Option Nat} (h : Blk w g t cs) (hb : w.grownBy w' row) (hg : some g ≠ row) : Blk w' g t cs := (hb.block g h.lt hg).trans h
theorem Blk.set {w : World} {g : Nat} {t : TypeId} {cs : Array Value} (h : Blk w g t cs) (i : Nat) (u : Value) : Blk (w.setCell ⟨g, i, none⟩ u) g t (cs.setIfInBounds i u) := by
  unfold Blk at h ⊢
  simp [World.setCell, Array.getElem?_modify, h]
theorem Blk.far {w : World} {g : Nat} {t : TypeId} {cs : Array Value} (h : Blk w g t cs) {p : Addr} (hp : g ≠ p.block) (u : Value) : Blk (w.setCell p u) g t cs := (Below.heap_setCell w p u g hp).trans h

theorem Below.tr {a b c : World} (h : Below a.heap.size a b) (k : Below b.heap.size b c) : Below a.heap.size a c := h.trans (k.mono h.size)

end Go.Proofs.YtadldndpphdmpaaGreat
namespace Go.Proofs.YtadldndpphdmpaaGreat
open Go.RowKit


theorem flat_get {α : Type} {enc : α → List Value} {k : Nat} (hk : ∀ x, (enc x).length = k) : ∀ (xs : List α) (i : Nat) (x : α) (j : Nat) (v : Value), xs[i]? = some x → (enc x)[j]? = some v → (xs.flatMap enc)[i * k + j]? = some v
  | [], i, x, j, v, h, _ => by simp at h
  | y :: ys, 0, x, j, v, h, hv => by
    simp at h
    subst h
    have hj : j < (enc y).length := (List.getElem?_eq_some_iff.1 hv).1
    rw [List.flatMap_cons, Nat.zero_mul, Nat.zero_add, List.getElem?_append_left hj]
    exact hv
  | y :: ys, i + 1, x, j, v, h, hv => by
    rw [List.getElem?_cons_succ] at h
    have hy := hk y
    rw [List.flatMap_cons, List.getElem?_append_right (by rw [hy, Nat.succ_mul]; omega), hy]
    have e : (i + 1) * k + j - k = i * k + j := by rw [Nat.succ_mul]; omega
    rw [e]
    exact flat_get hk ys i x j v h hv
theorem add_add' (a : Addr) (i j : Nat) : (a.add i).add j = a.add (i + j) := by
  unfold Addr.add
  by_cases hi : i = 0 <;> by_cases hj : j = 0 <;> simp [hi, hj, Nat.add_assoc]

theorem own_lower {w : World} {base base' : Nat} {e : TypeId} {size : Nat} {v : Value} {n : Nat} {xs : List Value} (h : w.ownsRow base e size v n xs) (hb : base' ≤ base) : w.ownsRow base' e size v n xs := by
  refine ⟨h.1, ?_⟩
  rcases h.2 with h0 | ⟨g, cap, cur, h1, h2, h3⟩
  · exact .inl h0
  · exact .inr ⟨g, cap, cur, h1, Nat.le_trans hb h2, h3⟩

theorem rd_of_own {α : Type} {enc : α → List Value} {k : Nat} (hk : ∀ x, (enc x).length = k) {w : World} {base : Nat} {e : TypeId} {v : Value} {n : Nat} {xs : List α} (h : w.ownsRow base e k v n (xs.flatMap enc)) (hn : xs.length = n) :
    ∃ A c, v = .slice A n c ∧ Rd enc k w A n xs ∧ n ≤ c ∧ c ≤ maxLen := by
  rcases h.2 with ⟨rfl, rfl⟩ | ⟨g, cap, cur, rfl, hb, hc, h1, h2, h3, h4⟩
  · have : xs = [] := List.length_eq_zero_iff.1 hn
    subst this
    exact ⟨none, 0, rfl, Rd.nil, Nat.le_refl _, Nat.zero_le _⟩
  · refine ⟨some ⟨g, 0, none⟩, cap, rfl, ⟨hn, fun i x hx => ⟨_, rfl, fun j u hu => ?_⟩⟩, h1, h2⟩
    rw [add_add']
    exact h.cells (g := g) rfl _ _ (flat_get hk xs i x j u hx hu)
theorem flat_one (xs : List Int) : xs.flatMap (fun x => [Value.int .i64 x]) = xs.map (Value.int .i64) := by induction xs <;> simp_all
abbrev RdI := @Rd Int (fun x => [Value.int .i64 x]) 1
theorem rdI_get {w : World} {A : Option Addr} {n : Nat} {xs : List Int} (h : RdI w A n xs) {k : Nat} (hk : k < n) : ∃ (x : Int) (ad : Addr), xs[k]? = some x ∧ A = some ad ∧ w.cell? (ad.add k) = some (.int .i64 x) := by
  obtain ⟨x, ad, h1, h2, h3⟩ := h.get hk
  have h4 := h3 0 _ rfl
  rw [Nat.mul_one] at h4
  exact ⟨x, ad, h1, h2, h4⟩
theorem rdI_of_own {w : World} {base : Nat} {v : Value} {n : Nat} {xs : List Int} (h : w.ownsRow base 3 1 v n (xs.map (Value.int .i64))) (hn : xs.length = n) : ∃ A c, v = .slice A n c ∧ RdI w A n xs ∧ n ≤ c ∧ c ≤ maxLen := by
  rw [← flat_one] at h
  exact rd_of_own (enc := fun x : Int => [Value.int .i64 x]) (k := 1) (fun _ => rfl) h hn
end Go.Proofs.YtadldndpphdmpaaGreat
namespace Go.Proofs.YtadldndpphdmpaaGreat
open Go.RowKit Go.Shelf


/-- Whatever is cells below a place lies as it lay. -/
structure KLow (n0 : Nat) (W W' : World) : Prop where
  size : W.heap.size ≤ W'.heap.size
  same : ∀ (k : Nat) (o : Obj), k < n0 → W.heap[k]? = some o → o.isCells = true → W'.heap[k]? = some o

theorem KLow.refl (n0 : Nat) (W : World) : KLow n0 W W := ⟨Nat.le_refl _, fun _ _ _ h _ => h⟩
theorem KLow.trans {n0 : Nat} {A B C : World} (h : KLow n0 A B) (k : KLow n0 B C) : KLow n0 A C := ⟨Nat.le_trans h.size k.size, fun i o hn hi ho => k.same i o hn (h.same i o hn hi ho) ho⟩
theorem KLow.putObj {n0 : Nat} {W : World} {l : Nat} {o : Obj} (o' : Obj) (hl : W.heap[l]? = some o) (ho : o.isCells = false) : KLow n0 W (W.putObj l o') := by
  refine ⟨by simp [World.putObj], fun k x _ hk hx => ?_⟩
  by_cases e : l = k
  · subst e; rw [hl] at hk; cases hk; rw [ho] at hx; cases hx
  · rw [World.putObj_heap_other (fun h => e h.symm)]; exact hk
theorem KLow.of_grown {n0 : Nat} {W W' : World} {row : Option Nat} (hg : W.grownBy W' row) (hr : ∀ r, row = some r → n0 ≤ r ∨ ∃ o : Obj, W.heap[r]? = some o ∧ o.isCells = false) : KLow n0 W W' :=
  ⟨hg.size, fun k x hn hk hx => by
    refine (hg.block k (Array.getElem?_eq_some_iff.1 hk).1 (fun e => ?_)).trans hk
    rcases hr k e.symm with h | ⟨o, h1, h2⟩
    · omega
    · rw [h1] at hk; cases hk; rw [h2] at hx; cases hx⟩
theorem KLow.of_below {n0 B : Nat} {W W' : World} (hb : Below B W W') (hn : n0 ≤ B) : KLow n0 W W' := ⟨hb.size, fun k _ hk h _ => (hb.block k (by omega)).trans h⟩
theorem KLow.alloc (n0 : Nat) (W : World) (o : Obj) : KLow n0 W (W.alloc o) := KLow.of_grown (World.grownBy_alloc W o none) (fun r e => by cases e)
theorem KLow.cell {n0 : Nat} {W W' : World} {p : Addr} {v : Value} (h : KLow n0 W W') (hp : p.block < n0) (hc : W.cell? p = some v) : W'.cell? p = some v := by
  unfold World.cell? at hc ⊢
  cases hb : W.heap[p.block]? with
  | none => rw [hb] at hc; cases hc
  | some o =>
    cases o with
    | cells c t m => rw [hb] at hc; rw [h.same p.block _ hp hb rfl]; exact hc
    | _ => rw [hb] at hc; cases hc
theorem KLow.at {n0 : Nat} {W W' : World} {p : Addr} {vs : List Value} (h : KLow n0 W W') (hp : p.block < n0) (ha : At W p vs) : At W' p vs :=
  fun j v hj => h.cell (by unfold Addr.add; split <;> exact hp) (ha j v hj)
/-- A slice's cells lie below a place. -/
def LowA (n0 : Nat) (A : Option Addr) : Prop := ∀ a, A = some a → a.block < n0
theorem add_block (a : Addr) (j : Nat) : (a.add j).block = a.block := by unfold Addr.add; split <;> rfl
theorem KLow.rd {α : Type} {enc : α → List Value} {k n0 : Nat} {w w' : World} {A : Option Addr} {n : Nat} {xs : List α} (hb : KLow n0 w w') (hA : LowA n0 A) (h : Rd enc k w A n xs) : Rd enc k w' A n xs :=
  ⟨h.1, fun i x hx => by
    obtain ⟨ad, e, ha⟩ := h.2 i x hx
    exact ⟨ad, e, hb.at (by rw [add_block]; exact hA ad e) ha⟩⟩
theorem rd_low {α : Type} {enc : α → List Value} {k : Nat} {w : World} {A : Option Addr} {n : Nat} {xs : List α} (h : Rd enc k w A n xs) (hk : ∀ x, ∃ v vs, enc x = v :: vs) (hn : 0 < n) : LowA w.heap.size A := by
  obtain ⟨x, ad, h1, h2, h3⟩ := h.get hn
  intro a e
  rw [h2] at e
  cases e
  obtain ⟨v, vs, hv⟩ := hk x
  rw [hv] at h3
  have := cell_lt (h3 0 v rfl)
  rw [add_block, add_block] at this
  exact this
theorem KLow.lower {n0 n1 : Nat} {W W' : World} (h : KLow n1 W W') (hn : n0 ≤ n1) : KLow n0 W W' := ⟨h.size, fun k o hk => h.same k o (by omega)⟩
theorem grown_of_below {a b : World} (h : Below a.heap.size a b) (row : Option Nat) : a.grownBy b row := ⟨h.os, h.tape, h.output, h.size, fun i hi _ => h.block i hi⟩
theorem grown_refl (a : World) (row : Option Nat) : a.grownBy a row := ⟨rfl, rfl, rfl, Nat.le_refl _, fun _ _ _ => rfl⟩
theorem cell_at_new {w : World} {cs : Array Value} {t : TypeId} {i : Nat} {v : Value} {b : Nat} (hb : b = w.heap.size) (h : cs[i]? = some v) : (w.alloc (.cells cs t)).cell? ⟨b, i, none⟩ = some v := by
  subst hb
  unfold World.cell?
  rw [World.alloc_heap_new]
  exact h
/-- A block's cell, stored into again. -/
theorem Blk.one {W : World} {B : Nat} {t : TypeId} {v : Value} (h : Blk W B t #[v]) (u : Value) : Blk (W.setCell ⟨B, 0, none⟩ u) B t #[u] := h.set 0 u
/-- An owned row stays where a block that is not its own turns. -/
theorem own_far {w w' : World} {base : Nat} {e : TypeId} {size : Nat} {v : Value} {n : Nat} {xs : List Value} {row : Option Nat} (h : w.ownsRow base e size v n xs) (hg : w.grownBy w' row) (hr : ∀ r, row = some r → r < base ∨ ∃ o : Obj, w.heap[r]? = some o ∧ (∀ cs m, o ≠ .cells cs e m)) : w'.ownsRow base e size v n xs := by
  refine h.kept hg ?_
  rcases h.2 with ⟨rfl, _⟩ | ⟨g, cap, cur, rfl, hb, hc, _⟩
  · exact .inl rfl
  · refine .inr fun e' => ?_
    rcases hr g e'.symm with h1 | ⟨o, h1, h2⟩
    · omega
    · rw [h1] at hc
      cases hc
      exact h2 _ _ rfl
theorem own_ne {w : World} {base : Nat} {e t : TypeId} {size : Nat} {v : Value} {n B : Nat} {xs : List Value} {cs : Array Value} (h : w.ownsRow base e size v n xs) (hb : Blk w B t cs) (hte : t ≠ e) : some B ≠ v.ownBlock := by
  rcases h.2 with ⟨rfl, _⟩ | ⟨g, cap, cur, rfl, _, hgb, _⟩
  · simp [Value.ownBlock]
  · intro e'
    have : B = g := by simpa [Value.ownBlock] using e'
    subst this
    rw [show w.heap[B]? = _ from hb] at hgb
    cases hgb
    exact hte rfl
theorem own_cells {w : World} {base : Nat} {e : TypeId} {size : Nat} {v : Value} {n : Nat} {xs : List Value} (h : w.ownsRow base e size v n xs) (j : Nat) (o : Obj) (hj : v.ownBlock = some j) (ho : w.heap[j]? = some o) : o.isCells = true := by
  rcases h.2 with ⟨rfl, _⟩ | ⟨g, cap, cur, rfl, _, hgb, _⟩
  · simp [Value.ownBlock] at hj
  · have : g = j := by simpa [Value.ownBlock] using hj
    subst this; rw [hgb] at ho; cases ho; rfl
theorem own_slice {w : World} {base : Nat} {e : TypeId} {size : Nat} {v : Value} {n : Nat} {xs : List Value} (h : w.ownsRow base e size v n xs) : ∃ A c, v = .slice A n c ∧ n ≤ c := by
  rcases h.2 with ⟨rfl, rfl⟩ | ⟨g, cap, cur, rfl, _, _, hc, _⟩
  · exact ⟨none, 0, rfl, Nat.le_refl _⟩
  · exact ⟨_, cap, rfl, hc⟩
theorem grown_set (W : World) (a : Addr) (v : Value) : W.grownBy (W.setCell a v) (some a.block) :=
  ⟨rfl, rfl, rfl, by simp, fun k _ hk => Below.heap_setCell W a v k (fun e => hk (by rw [e]))⟩
end Go.Proofs.YtadldndpphdmpaaGreat
namespace Go.Proofs.YtadldndpphdmpaaGreat
open Go.RowKit
section
variable {P : Program} {ops : Array Oper} {md : Region.Mode} {C : World → Prop}



/-- The head of a region in whatever order: f operations, each of the first n, then L. -/
def headQ (P : Program) (md : Region.Mode) (ops : Array Oper) (C : World → Prop) (n : Nat) (L : Array Bool → Act → Prop) : Nat → Array Bool → Act → Prop
  | 0, listed, a => L listed a
  | f + 1, listed, a => Region.ready md ops listed ≠ [] ∧ ∀ i, i ∈ Region.ready md ops listed → i < n ∧ qOp P ops C i (headQ P md ops C n L f (listed.setIfInBounds i true)) a

theorem any_of_headQ {n g : Nat} {L : Array Bool → Act → Prop} {Q : Exit → Act → World → Prop} (hL : ∀ listed a w, C w → L listed a → wpAny P md ops Q g listed a w) (f : Nat) :
    ∀ (listed : Array Bool) (a : Act) (w : World), C w → headQ P md ops C n L f listed a → wpAny P md ops Q (f + g) listed a w := by
  induction f with
  | zero =>
    intro listed a w hw h
    rw [Nat.zero_add]
    exact hL listed a w hw h
  | succ f ih =>
    intro listed a w hw h
    rw [Nat.succ_add]
    refine ⟨fun e => absurd e h.1, fun i hi => ?_⟩
    exact wpOp_of_qOp hw (fun a' w' hw' h' => ih _ a' w' hw' h') (h.2 i hi).2

/-- An operation of the head that may come up may be taken first. -/
theorem headQ_first {n i : Nat} {oi : Oper} {v : Value} {L : Array Bool → Act → Prop} (hi : ops[i]? = some oi) (hsel : ∀ (j : Nat) (o : Oper) cs b, ops[j]? = some o → o.op ≠ .select cs b)
    (hs : Region.sinkB md ops n = true) (hc : Region.chainB md ops n = true) (hn : n < ops.size) (hin : i < n) (hdone : ∀ listed a, L listed a → ∀ j ∈ Region.ready md ops listed, n ≤ j) (f : Nat) :
    ∀ (listed : Array Bool) (a : Act), HeadInv md ops n listed →
      (∀ j oj, ops[j]? = some oj → j ≠ i → listed.getD j true = false → (∀ e ∈ oj.after, Region.binds md e = true → e.on ≠ i) → oi.apart ops oj = true) →
      i ∈ Region.ready md ops listed → YieldsIn P ops C oi v a → headQ P md ops C n L f (listed.setIfInBounds i true) (a.put oi.dst v) → headQ P md ops C n L (f + 1) listed a := by
  induction f with
  | zero =>
    intro listed a inv _ hr hy hL
    have hu := (mem_ready.1 hr).1
    refine ⟨List.ne_nil_of_mem hr, fun j hj => ?_⟩
    have hjn : j < n := Nat.lt_of_not_le fun h => tail_waits hs hc hn inv _ i rfl hin hu j h hj
    by_cases e : j = i
    · rw [e]; exact ⟨hin, hy.qOp hi hL⟩
    · have := hdone _ _ hL j (ready_mono hj e)
      omega
  | succ f ih =>
    intro listed a inv hfree hr hy hH
    have hu := (mem_ready.1 hr).1
    refine ⟨List.ne_nil_of_mem hr, fun j hj => ?_⟩
    have hjn : j < n := Nat.lt_of_not_le fun h => tail_waits hs hc hn inv _ i rfl hin hu j h hj
    by_cases e : j = i
    · rw [e]; exact ⟨hin, hy.qOp hi hH⟩
    · refine ⟨hjn, ?_⟩
      obtain ⟨hju, oj, hoj, hall⟩ := mem_ready.1 hj
      have hap : oi.apart ops oj = true := hfree j oj hoj e hju fun x hx hb hon => by
        have h1 := hall x hx hb
        rw [hon, getD_both hu] at h1
        cases h1
      have h2 := qOp_put hoj hap (fun cs b => hsel i oi cs b hi) (fun cs b => hsel j oj cs b hoj) hy (hH.2 j (ready_mono hj e)).2
      refine qOp_mono (fun a' h3 => ih _ a' (inv.set hj hjn) (fun k ok hk hki hun hno => hfree k ok hk hki ?_ hno) (ready_mono hr (Ne.symm e)) h3.1 ?_) h2
      · by_cases hjk : j = k
        · rw [← hjk]; exact hju
        · rwa [getD_set_ne true hjk] at hun
      · rw [Array.setIfInBounds_comm _ _ e]
        exact h3.2

theorem headQ_lex {n g : Nat} {Lq : Act → Prop} (hsel : Region.noSelect ops = true) (hs : Region.sinkB md ops n = true) (hc : Region.chainB md ops n = true) (hn : n < ops.size) :
    ∀ (l : List Oper) (k : Nat) (listed : Array Bool) (a : Act), (∀ j, j < l.length → l[j]? = ops[k + j]?) → k + l.length = n → HeadInv md ops n listed → Region.lexHead md ops g l.length k listed = true →
      wpQuiet P ops C Lq l a → headQ P md ops C n (fun listed' a' => Region.seqB md ops g n listed' = true ∧ Lq a') l.length listed a
  | [], k, listed, a, _, hk, _, hB, h => by
    obtain rfl : k = n := by simpa using hk
    exact ⟨by simpa [Region.lexHead] using hB, h⟩
  | o :: l, k, listed, a, hl, hk, inv, hB, h => by
    have h0 : ops[k]? = some o := by simpa using (hl 0 (by simp)).symm
    have hkn : k < n := by rw [List.length_cons] at hk; omega
    simp only [List.length_cons, Region.lexHead, Bool.and_eq_true] at hB
    have hq : qOp P ops C k (wpQuiet P ops C Lq l) a := by unfold qOp; simp only [h0]; exact h
    obtain ⟨v, hy, hK⟩ := yieldsIn_of_qOp h0 hq
    have hr : k ∈ Region.ready md ops listed := by simpa using hB.1.1
    refine headQ_first h0 (Region.noSelect_spec hsel) hs hc hn hkn (fun _ _ hL => seqB_ready hL.1) l.length listed a inv (Region.free_spec h0 hB.1.2) hr hy ?_
    refine headQ_lex hsel hs hc hn l (k + 1) _ _ (fun j hj => ?_) (by rw [List.length_cons] at hk; omega) (inv.set hr hkn) hB.2 hK
    have := hl (j + 1) (by simp; omega)
    rw [List.getElem?_cons_succ] at this
    rw [this]
    congr 1
    omega

theorem wp_region_later_tail {id : Nat} {Q : Exit → Act → World → Prop} {a : Act} {w : World} {l : List Oper} (n : Nat) (hm : P.follows .mixedOrders = true) (hB : Region.lexTailB .any l.toArray n = true)
    (h : wpQuiet P l.toArray (fun w' => ∃ u : Later w, w' = u.w) (fun a' => ∀ w', (∃ u : Later w, w' = u.w) → wpList P l.toArray Q (l.drop n) a' w') (l.take n) a) : (Code.region id l.toArray true).wp P Q a w := by
  simp only [Region.lexTailB, Bool.and_eq_true, decide_eq_true_eq] at hB
  obtain ⟨⟨⟨⟨hsel, hn⟩, hs⟩, hc⟩, hlex⟩ := hB
  have hsz : l.toArray.size = l.length := by simp
  rw [hsz] at hn
  have htl : (l.take n).length = n := by rw [List.length_take]; omega
  have hdl : (l.drop n).length = l.toArray.size - n := by rw [List.length_drop, hsz]
  have inv : HeadInv .any l.toArray n (Array.replicate l.toArray.size false) :=
    ⟨by simp, fun j oj _ hl => (by rw [getD_replicate_false] at hl; cases hl), fun t _ ht => getD_in (by simpa using ht) (getD_replicate_false _ _)⟩
  have H := headQ_lex (g := l.toArray.size - n) hsel hs hc (by rw [hsz]; exact hn) (l.take n) 0 _ a (fun j hj => by rw [htl] at hj; simp [hj]) (by rw [htl]; omega) inv (by rw [htl]; exact hlex) h
  have hA := any_of_headQ (Q := Q) (g := l.toArray.size - n) (fun listed a' w' hw hL => by
    have := wpAny_of_seq (md := .any) (Q' := Q) (l.drop n) n listed a' w' (fun j => by simp [List.getElem?_drop]) (by rw [hdl]; exact hL.1) (hL.2 w' hw)
    rwa [hdl] at this) _ _ _ w.drew ⟨⟨w.drew, (Below.refl _ _).drew⟩, rfl⟩ H
  rw [htl, show n + (l.toArray.size - n) = l.toArray.size by rw [hsz]; omega] at hA
  exact wp_region_any hm hA
end
end Go.Proofs.YtadldndpphdmpaaGreat
namespace Go.Proofs.YtadldndpphdmpaaGreat
open Go.RowKit
section
variable {P : Program} {ops : Array Oper} {Q : Exit → Act → World → Prop} {md : Region.Mode} {S : World → Prop}



/-- Whatever order is picked; S holds behind every operation below n. -/
def anyT (P : Program) (md : Region.Mode) (ops : Array Oper) (Q : Exit → Act → World → Prop) (S : World → Prop) (n : Nat) : Nat → Array Bool → Act → World → Prop
  | 0, listed, a, w => Region.ready md ops listed = [] ∧ Q .normal a w
  | f + 1, listed, a, w => (Region.ready md ops listed = [] → Q .normal a w) ∧
    ∀ i, i ∈ Region.ready md ops listed → wpOp P ops Q i (fun a' w' => (i < n → S w') ∧ anyT P md ops Q S n f (listed.setIfInBounds i true) a' w') a w

theorem any_of_anyT {n : Nat} (f : Nat) : ∀ (listed : Array Bool) (a : Act) (w : World), anyT P md ops Q S n f listed a w → wpAny P md ops Q f listed a w := by
  induction f with
  | zero => exact fun _ _ _ h => h
  | succ f ih => exact fun _ a w h => ⟨h.1, fun i hi => wpOp_mono (fun a' w' h' => ih _ a' w' h'.2) (h.2 i hi)⟩

theorem anyT_first {n i : Nat} {oi : Oper} {v : Value} (hi : ops[i]? = some oi) (hsel : ∀ (j : Nat) (o : Oper) cs b, ops[j]? = some o → o.op ≠ .select cs b)
    (hQ : ∀ c a w, Q (.panic c) (a.put oi.dst v) w → Q (.panic c) a w) (hs : Region.sinkB md ops n = true) (hc : Region.chainB md ops n = true) (hn : n < ops.size) (hin : i < n) (f : Nat) :
    ∀ (listed : Array Bool) (a : Act) (w : World), HeadInv md ops n listed →
      (∀ j oj, ops[j]? = some oj → j ≠ i → listed.getD j true = false → (∀ e ∈ oj.after, Region.binds md e = true → e.on ≠ i) → oi.apart ops oj = true) →
      i ∈ Region.ready md ops listed → YieldsIf P ops S oi v a → S w → anyT P md ops Q S n f (listed.setIfInBounds i true) (a.put oi.dst v) w → anyT P md ops Q S n (f + 1) listed a w := by
  induction f with
  | zero =>
    intro listed a w _ _ hr hy hS hH
    refine ⟨fun e => absurd e (List.ne_nil_of_mem hr), fun j hj => ?_⟩
    by_cases e : j = i
    · rw [e]; exact hy.wpOp hi hS ⟨fun _ => hS, hH⟩
    · have := ready_mono hj e
      rw [hH.1] at this
      cases this
  | succ f ih =>
    intro listed a w inv hfree hr hy hS hH
    have hu := (mem_ready.1 hr).1
    refine ⟨fun e => absurd e (List.ne_nil_of_mem hr), fun j hj => ?_⟩
    have hjn : j < n := Nat.lt_of_not_le fun h => tail_waits hs hc hn inv _ i rfl hin hu j h hj
    by_cases e : j = i
    · rw [e]; exact hy.wpOp hi hS ⟨fun _ => hS, hH⟩
    · obtain ⟨hju, oj, hoj, hall⟩ := mem_ready.1 hj
      have hap : oi.apart ops oj = true := hfree j oj hoj e hju fun x hx hb hon => by
        have h1 := hall x hx hb
        rw [hon, getD_both hu] at h1
        cases h1
      have h2 := wpOp_putIf hoj hap (fun cs b => hsel i oi cs b hi) (fun cs b => hsel j oj cs b hoj) hQ hy (hH.2 j (ready_mono hj e))
      refine wpOp_mono (fun a' w' h3 => ⟨h3.2.1, ih _ a' w' (inv.set hj hjn) (fun k ok hk hki hun hno => hfree k ok hk hki ?_ hno) (ready_mono hr (Ne.symm e)) h3.1 (h3.2.1 hjn) ?_⟩) h2
      · by_cases hjk : j = k
        · rw [← hjk]; exact hju
        · rwa [getD_set_ne true hjk] at hun
      · rw [Array.setIfInBounds_comm _ _ e]
        exact h3.2.2

/-- What is asked behind an operation that is carried out. -/
def mixPost (Q : Exit → Act → World → Prop) (S : World → Prop) (b : Bool) (K : Act → World → Prop) : Exit → Act → World → Prop
  | .normal, a, w => (b = true → S w) ∧ K a w
  | .ret, a, w => Q .ret a w
  | .exit id, a, w => Q (.exit id) a w
  | .goto t, a, w => Q (.goto t) a w
  | .panic c, a, w => Q (.panic c) a w
  | .outgrown, a, w => Q .outgrown a w

theorem wp_mixPost {o : Oper} {a : Act} {w : World} {K K' : Act → World → Prop} {b : Bool} (h : o.wp P a w K (mixPost Q S b K')) : o.wp P a w K Q := by
  unfold Oper.wp at *
  generalize (execOp a.eval o).run P w = r at *
  cases r with
  | ok n w' => cases n <;> first | exact h | exact (Calls.mono h fun e w'' he => by cases e <;> exact he)
  | halt x w' => cases x <;> exact h

/-- The walk in the order of the text; q says of which operations the value is one and the same in every world of the class. -/
def wpMix (P : Program) (ops : Array Oper) (Q : Exit → Act → World → Prop) (S : World → Prop) (n : Nat) (q : Nat → Bool) : List Oper → Nat → Act → World → Prop
  | [], _, a, w => Q .normal a w
  | o :: rest, k, a, w => if q k = true then S w ∧ ∃ v, YieldsIf P ops S o v a ∧ wpMix P ops Q S n q rest (k + 1) (a.put o.dst v) w
    else wpList P ops (mixPost Q S (decide (k < n)) (fun a' w' => wpMix P ops Q S n q rest (k + 1) a' w')) [o] a w

/-- Every operation of the class may come up where the text has it, and is free; every other one is then the only one. -/
def mixB (md : Region.Mode) (ops : Array Oper) (n : Nat) (q : Nat → Bool) : Nat → Nat → Array Bool → Bool
  | 0, _, listed => (Region.ready md ops listed).isEmpty
  | f + 1, k, listed => (if q k then decide (k < n) && (Region.ready md ops listed).contains k && Region.free md ops listed k else decide (Region.ready md ops listed = [k])) && mixB md ops n q f (k + 1) (listed.setIfInBounds k true)

theorem anyT_of_mix {n : Nat} {q : Nat → Bool} (hsel : Region.noSelect ops = true) (hs : Region.sinkB md ops n = true) (hc : Region.chainB md ops n = true) (hn : n < ops.size)
    (hQ : ∀ c a d v w, Q (.panic c) (Act.put a d v) w → Q (.panic c) a w) :
    ∀ (l : List Oper) (k : Nat) (listed : Array Bool) (a : Act) (w : World), (∀ j, l[j]? = ops[k + j]?) → (k ≤ n → HeadInv md ops n listed) → mixB md ops n q l.length k listed = true →
      wpMix P ops Q S n q l k a w → anyT P md ops Q S n l.length listed a w
  | [], k, listed, a, w, _, _, hB, h => ⟨by simpa [mixB] using hB, h⟩
  | o :: l, k, listed, a, w, hl, inv, hB, h => by
    have h0 : ops[k]? = some o := by simpa using (hl 0).symm
    have hl' : ∀ j, l[j]? = ops[k + 1 + j]? := fun j => by
      have := hl (j + 1)
      rw [List.getElem?_cons_succ] at this
      rw [this]
      congr 1
      omega
    rw [List.length_cons, mixB, Bool.and_eq_true] at hB
    obtain ⟨hB1, hB2⟩ := hB
    by_cases hq : q k = true
    · rw [if_pos hq] at hB1
      simp only [Bool.and_eq_true, decide_eq_true_eq] at hB1
      rw [wpMix, if_pos hq] at h
      obtain ⟨hS, v, hy, hK⟩ := h
      have hr : k ∈ Region.ready md ops listed := by simpa using hB1.1.2
      exact anyT_first h0 (Region.noSelect_spec hsel) (fun c a w => hQ c a _ _ w) hs hc hn hB1.1.1 l.length listed a w (inv (by omega)) (Region.free_spec h0 hB1.2) hr hy hS
        (anyT_of_mix hsel hs hc hn hQ l (k + 1) _ _ w hl' (fun _ => (inv (by omega)).set hr hB1.1.1) hB2 hK)
    · rw [if_neg hq, decide_eq_true_eq] at hB1
      rw [wpMix, if_neg hq] at h
      refine ⟨fun e => (by rw [hB1] at e; cases e), fun i hi => ?_⟩
      rw [hB1] at hi
      obtain rfl : i = k := by simpa using hi
      have hr : i ∈ Region.ready md ops listed := by rw [hB1]; simp
      have hinv : i + 1 ≤ n → HeadInv md ops n (listed.setIfInBounds i true) := fun hle => (inv (by omega)).set hr (by omega)
      have hgo : ∀ a' w', ((decide (i < n) = true → S w') ∧ wpMix P ops Q S n q l (i + 1) a' w') → ((i < n → S w') ∧ anyT P md ops Q S n l.length (listed.setIfInBounds i true) a' w') := fun a' w' h' =>
        ⟨fun hlt => h'.1 (by simpa using hlt), anyT_of_mix hsel hs hc hn hQ l (i + 1) _ _ w' hl' hinv hB2 h'.2⟩
      unfold wpOp
      simp only [h0]
      rw [wpList] at h
      split
      · rename_i hw
        rw [if_pos hw] at h
        rcases h with h | ⟨h1, h2⟩
        · refine .inl (wp_mixPost (Oper.wp_mono (fun a' w' h' => hgo a' w' h') h))
        · exact .inr ⟨h1, h2⟩
      · rename_i hw
        rw [if_neg hw] at h
        exact hgo _ _ h

theorem wp_region_mix {id : Nat} {Q : Exit → Act → World → Prop} {a : Act} {w : World} {l : List Oper} (S : World → Prop) (n : Nat) (q : Nat → Bool) (hm : P.follows .mixedOrders = true)
    (hB : (Region.noSelect l.toArray && decide (n < l.toArray.size) && Region.sinkB .any l.toArray n && Region.chainB .any l.toArray n && mixB .any l.toArray n q l.length 0 (Array.replicate l.toArray.size false)) = true)
    (hQ : ∀ c a d v w, Q (.panic c) (Act.put a d v) w → Q (.panic c) a w) (h : wpMix P l.toArray Q S n q l 0 a w.drew) : (Code.region id l.toArray true).wp P Q a w := by
  simp only [Bool.and_eq_true, decide_eq_true_eq] at hB
  obtain ⟨⟨⟨⟨hsel, hn⟩, hs⟩, hc⟩, hmix⟩ := hB
  have inv : HeadInv .any l.toArray n (Array.replicate l.toArray.size false) :=
    ⟨by simp, fun j oj _ hl => (by rw [getD_replicate_false] at hl; cases hl), fun t _ ht => getD_in (by simpa using ht) (getD_replicate_false _ _)⟩
  have H := anyT_of_mix (S := S) hsel hs hc hn hQ l 0 _ a w.drew (fun j => by simp) (fun _ => inv) hmix h
  have hA := any_of_anyT _ _ _ _ H
  refine wp_region_any hm ?_
  simpa using hA

/-- One operation of the class, of a kind that yields a value. -/
def plainB : Op → Bool
  | .move _ | .assign _ | .pick _ _ _ | .load _ _ | .fieldAddr _ _ _ | .indexAddr _ _ _ | .binOp _ _ _ _ _ | .unOp _ _ _ | .extract _ _ | .build _ _ | .index _ _ _ | .makeFunc _ _ _ => true
  | _ => false
theorem plain_run {P : Program} {o : Oper} (h : plainB o.op = true) (ev : Operand → Value) (w : World) : (∃ u w', (execOp ev o).run P w = .ok (.value u) w') ∨ (∃ x w', (execOp ev o).run P w = .halt x w') := by
  have key : ∀ s : Sem Value, (∃ u w', (do let x ← s; pure (Next.value x) : Sem Next).run P w = .ok (.value u) w') ∨ (∃ x w', (do let x ← s; pure (Next.value x) : Sem Next).run P w = .halt x w') := fun s => by
    simp only [Sem.run_bind, Sem.run_pure]
    cases s.run P w with
    | ok v w' => exact .inl ⟨v, w', rfl⟩
    | halt x w' => exact .inr ⟨x, w', rfl⟩
  unfold execOp
  cases ho : o.op <;> rw [ho] at h <;> simp only [plainB] at h <;> try cases h
  all_goals first
    | exact key _
    | exact .inl ⟨_, w, rfl⟩
    | (simp only [Sem.run_bind, Sem.run_pure]; cases (asBool _).run P w <;> simp [Result.andThen])

theorem mix_quiet {n k : Nat} {q : Nat → Bool} {o : Oper} {rest : List Oper} {a : Act} {w : World} (hq : q k = true) (hp : plainB o.op = true) (hw : Region.wanted o (yielded ops a.tmps) = true) (hS : S w)
    (h : ∀ K : Act → Prop, (∀ a', wpMix P ops Q S n q rest (k + 1) a' w → K a') → o.quiet P a S K) : wpMix P ops Q S n q (o :: rest) k a w := by
  rw [wpMix, if_pos hq]
  refine ⟨hS, ?_⟩
  obtain ⟨v, h1, h2⟩ := h (fun a' => wpMix P ops Q S n q rest (k + 1) a' w) (fun _ h => h)
  refine ⟨v, .inl ⟨hw, fun w' hS' => ?_⟩, h2⟩
  have h3 := h1 w' hS'
  unfold Oper.quietAt at h3
  rcases plain_run hp a.eval w' with ⟨u, w2, e⟩ | ⟨x, w2, e⟩
  · rw [e] at h3 ⊢
    obtain ⟨e1, e2⟩ := h3
    rw [e1, e2]
  · rw [e] at h3
    exact h3.elim
theorem mix_op {n k : Nat} {q : Nat → Bool} {o : Oper} {rest : List Oper} {a : Act} {w : World} (hq : q k = false)
    (h : wpList P ops (mixPost Q S (decide (k < n)) (fun a' w' => wpMix P ops Q S n q rest (k + 1) a' w')) [o] a w) : wpMix P ops Q S n q (o :: rest) k a w := by
  rw [wpMix, if_neg (by rw [hq]; simp)]
  exact h
theorem mix_post {b : Bool} {K : Act → World → Prop} {a : Act} {w : World} (h1 : b = true → S w) (h2 : K a w) : mixPost Q S b K .normal a w := ⟨h1, h2⟩
theorem mix_nil {n k : Nat} {q : Nat → Bool} {a : Act} {w : World} (h : Q .normal a w) : wpMix P ops Q S n q [] k a w := h
/-- A nil check of a pointer that is not nil. -/
theorem mix_nilCheck {n k : Nat} {q : Nat → Bool} {o : Oper} {rest : List Oper} {a : Act} {w : World} (hq : q k = true) (x : Operand) (ad : Addr) (ho : o.op = .nilCheck x) (hx : a.eval x = .pointer (some ad)) (hw : Region.wanted o (yielded ops a.tmps) = true) (hS : S w)
    (h : ∀ K : Act → Prop, (∀ a', wpMix P ops Q S n q rest (k + 1) a' w → K a') → o.quiet P a S K) : wpMix P ops Q S n q (o :: rest) k a w := by
  have hrun : ∀ w', (execOp a.eval o).run P w' = .ok (.value (.pointer (some ad))) w' := fun w' => by
    unfold execOp
    simp only [ho, hx]
    rfl
  rw [wpMix, if_pos hq]
  obtain ⟨v, h1, h2⟩ := h (fun a' => wpMix P ops Q S n q rest (k + 1) a' w) (fun _ h => h)
  have h3 := h1 w hS
  unfold Oper.quietAt at h3
  rw [hrun w] at h3
  obtain ⟨_, rfl⟩ := h3
  exact ⟨hS, _, .inl ⟨hw, fun w' _ => hrun w'⟩, h2⟩
end

/-- The worlds in which all that lay in W, but for one block, lies as it lay. -/
structure LaterBut (W : World) (row : Option Nat) where
  w : World
  h : W.grownBy w row
instance (W : World) (row : Option Nat) : Nonempty (LaterBut W row) := ⟨⟨W, ⟨rfl, rfl, rfl, Nat.le_refl _, fun _ _ _ => rfl⟩⟩⟩
theorem laterBut_cell {W : World} {row : Option Nat} {p : Addr} {v : Value} (h : W.cell? p = some v) (hne : some p.block ≠ row) : ∀ u : LaterBut W row, u.w.cell? p = some v := fun u =>
  (World.cell?_of_block (u.h.block p.block (cell_lt h) hne)).trans h
end Go.Proofs.YtadldndpphdmpaaGreat
namespace Go.Proofs.YtadldndpphdmpaaGreat
open Go.RowKit
section
variable {P : Program} {ops : Array Oper} {Q : Exit → Act → World → Prop} {md : Region.Mode} {S : World → Prop}



def wpOrd (P : Program) (ops : Array Oper) (Q : Exit → Act → World → Prop) (S : World → Prop) (n : Nat) (q : Nat → Bool) : List (Nat × Oper) → Act → World → Prop
  | [], a, w => Q .normal a w
  | (k, o) :: rest, a, w => if q k = true then S w ∧ ∃ v, YieldsIf P ops S o v a ∧ wpOrd P ops Q S n q rest (a.put o.dst v) w
    else wpList P ops (mixPost Q S (decide (k < n)) (fun a' w' => wpOrd P ops Q S n q rest a' w')) [o] a w

/-- b: no operation of the tail has come up yet. -/
def ordB (md : Region.Mode) (ops : Array Oper) (n : Nat) (q : Nat → Bool) : List Nat → Bool → Array Bool → Bool
  | [], _, listed => (Region.ready md ops listed).isEmpty
  | k :: rest, b, listed => (if q k then b && decide (k < n) && (Region.ready md ops listed).contains k && Region.free md ops listed k else decide (Region.ready md ops listed = [k])) && ordB md ops n q rest (b && decide (k < n)) (listed.setIfInBounds k true)

theorem anyT_of_ord {n : Nat} {q : Nat → Bool} (hsel : Region.noSelect ops = true) (hs : Region.sinkB md ops n = true) (hc : Region.chainB md ops n = true) (hn : n < ops.size)
    (hQ : ∀ c a d v w, Q (.panic c) (Act.put a d v) w → Q (.panic c) a w) :
    ∀ (l : List (Nat × Oper)) (b : Bool) (listed : Array Bool) (a : Act) (w : World), (∀ x ∈ l, ops[x.1]? = some x.2) → (b = true → HeadInv md ops n listed) → ordB md ops n q (l.map (·.1)) b listed = true →
      wpOrd P ops Q S n q l a w → anyT P md ops Q S n l.length listed a w
  | [], _, listed, a, w, _, _, hB, h => ⟨by simpa [ordB] using hB, h⟩
  | (k, o) :: l, b, listed, a, w, hl, inv, hB, h => by
    have h0 : ops[k]? = some o := hl (k, o) (by simp)
    have hl' : ∀ x ∈ l, ops[x.1]? = some x.2 := fun x hx => hl x (by simp [hx])
    rw [List.map_cons, ordB, Bool.and_eq_true] at hB
    obtain ⟨hB1, hB2⟩ := hB
    by_cases hq : q k = true
    · rw [if_pos hq] at hB1
      simp only [Bool.and_eq_true, decide_eq_true_eq] at hB1
      obtain ⟨⟨⟨hb, hkn⟩, hrd⟩, hfr⟩ := hB1
      rw [wpOrd, if_pos hq] at h
      obtain ⟨hS, v, hy, hK⟩ := h
      have hr : k ∈ Region.ready md ops listed := by simpa using hrd
      exact anyT_first h0 (Region.noSelect_spec hsel) (fun c a w => hQ c a _ _ w) hs hc hn hkn l.length listed a w (inv hb) (Region.free_spec h0 hfr) hr hy hS
        (anyT_of_ord hsel hs hc hn hQ l _ _ _ w hl' (fun _ => (inv hb).set hr hkn) hB2 hK)
    · rw [if_neg hq, decide_eq_true_eq] at hB1
      rw [wpOrd, if_neg hq] at h
      refine ⟨fun e => (by rw [hB1] at e; cases e), fun i hi => ?_⟩
      rw [hB1] at hi
      obtain rfl : i = k := by simpa using hi
      have hr : i ∈ Region.ready md ops listed := by rw [hB1]; simp
      have hinv : (b && decide (i < n)) = true → HeadInv md ops n (listed.setIfInBounds i true) := fun hbb => by
        simp only [Bool.and_eq_true, decide_eq_true_eq] at hbb
        exact (inv hbb.1).set hr hbb.2
      have hgo : ∀ a' w', ((decide (i < n) = true → S w') ∧ wpOrd P ops Q S n q l a' w') → ((i < n → S w') ∧ anyT P md ops Q S n l.length (listed.setIfInBounds i true) a' w') := fun a' w' h' =>
        ⟨fun hlt => h'.1 (by simpa using hlt), anyT_of_ord hsel hs hc hn hQ l _ _ _ w' hl' hinv hB2 h'.2⟩
      unfold wpOp
      simp only [h0]
      rw [wpList] at h
      split
      · rename_i hw
        rw [if_pos hw] at h
        rcases h with h | ⟨h1, h2⟩
        · refine .inl (wp_mixPost (Oper.wp_mono (fun a' w' h' => hgo a' w' h') h))
        · exact .inr ⟨h1, h2⟩
      · rename_i hw
        rw [if_neg hw] at h
        exact hgo _ _ h

theorem wp_region_ord {id : Nat} {Q : Exit → Act → World → Prop} {a : Act} {w : World} {l : List Oper} (S : World → Prop) (n : Nat) (q : Nat → Bool) (ord : List (Nat × Oper)) (hm : P.follows .mixedOrders = true)
    (hB : (Region.noSelect l.toArray && decide (n < l.toArray.size) && Region.sinkB .any l.toArray n && Region.chainB .any l.toArray n && decide (ord.length = l.length) && ordB .any l.toArray n q (ord.map (·.1)) true (Array.replicate l.toArray.size false)) = true)
    (hord : ∀ x ∈ ord, l.toArray[x.1]? = some x.2) (hQ : ∀ c a d v w, Q (.panic c) (Act.put a d v) w → Q (.panic c) a w) (h : wpOrd P l.toArray Q S n q ord a w.drew) : (Code.region id l.toArray true).wp P Q a w := by
  simp only [Bool.and_eq_true, decide_eq_true_eq] at hB
  obtain ⟨⟨⟨⟨⟨hsel, hn⟩, hs⟩, hc⟩, hlen⟩, hmix⟩ := hB
  have inv : HeadInv .any l.toArray n (Array.replicate l.toArray.size false) :=
    ⟨by simp, fun j oj _ hl => (by rw [getD_replicate_false] at hl; cases hl), fun t _ ht => getD_in (by simpa using ht) (getD_replicate_false _ _)⟩
  have H := anyT_of_ord (S := S) hsel hs hc hn hQ ord true _ a w.drew hord (fun _ => inv) hmix h
  have hA := any_of_anyT _ _ _ _ H
  rw [hlen] at hA
  refine wp_region_any hm ?_
  simpa using hA

theorem ord_quiet {n k : Nat} {q : Nat → Bool} {o : Oper} {rest : List (Nat × Oper)} {a : Act} {w : World} (hq : q k = true) (hp : plainB o.op = true) (hw : Region.wanted o (yielded ops a.tmps) = true) (hS : S w)
    (h : ∀ K : Act → Prop, (∀ a', wpOrd P ops Q S n q rest a' w → K a') → o.quiet P a S K) : wpOrd P ops Q S n q ((k, o) :: rest) a w := by
  rw [wpOrd, if_pos hq]
  refine ⟨hS, ?_⟩
  obtain ⟨v, h1, h2⟩ := h (fun a' => wpOrd P ops Q S n q rest a' w) (fun _ h => h)
  refine ⟨v, .inl ⟨hw, fun w' hS' => ?_⟩, h2⟩
  have h3 := h1 w' hS'
  unfold Oper.quietAt at h3
  rcases plain_run hp a.eval w' with ⟨u, w2, e⟩ | ⟨x, w2, e⟩
  · rw [e] at h3 ⊢
    obtain ⟨e1, e2⟩ := h3
    rw [e1, e2]
  · rw [e] at h3
    exact h3.elim
theorem ord_op {n k : Nat} {q : Nat → Bool} {o : Oper} {rest : List (Nat × Oper)} {a : Act} {w : World} (hq : q k = false)
    (h : wpList P ops (mixPost Q S (decide (k < n)) (fun a' w' => wpOrd P ops Q S n q rest a' w')) [o] a w) : wpOrd P ops Q S n q ((k, o) :: rest) a w := by
  rw [wpOrd, if_neg (by rw [hq]; simp)]
  exact h
theorem ord_nil {n : Nat} {q : Nat → Bool} {a : Act} {w : World} (h : Q .normal a w) : wpOrd P ops Q S n q [] a w := h
/-- An order of the operations of a region, by their numbers. -/
def ordOf (l : List Oper) (is : List Nat) : List (Nat × Oper) := is.filterMap fun i => (l[i]?).map fun o => (i, o)
theorem ordOf_mem (l : List Oper) (is : List Nat) : ∀ x ∈ ordOf l is, l.toArray[x.1]? = some x.2 := by
  intro x hx
  unfold ordOf at hx
  rw [List.mem_filterMap] at hx
  obtain ⟨i, _, h2⟩ := hx
  rw [Option.map_eq_some_iff] at h2
  obtain ⟨o, h3, rfl⟩ := h2
  simpa using h3
end
end Go.Proofs.YtadldndpphdmpaaGreat
namespace Go.Proofs.YtadldndpphdmpaaGreat
open Go.RowKit
section
variable {P : Program} {ops : Array Oper} {Q : Exit → Act → World → Prop} {S : World → Prop}

theorem ord_len {n k : Nat} {q : Nat → Bool} {o : Oper} {rest : List (Nat × Oper)} {a : Act} {w : World} (hq : q k = true) (x : Nat) (t e : TypeId) (ht : P.underlying t = some (.slice e)) (A : Option Addr) (m c : Nat) (ho : o.op = .call { callee := .builtin .len, args := #[.tmp x], argTypes := #[t] }) (hx : a.tmps.getD x undef = .slice A m c) (hw : Region.wanted o (yielded ops a.tmps) = true) (hS : S w)
    (h : ∀ K : Act → Prop, (∀ a', wpOrd P ops Q S n q rest a' w → K a') → o.quiet P a S K) : wpOrd P ops Q S n q ((k, o) :: rest) a w := by
  have hrun : ∀ w', (execOp a.eval o).run P w' = .ok (.value (.int .i64 m)) w' := fun w' => by
    unfold execOp
    rw [ho]
    have hx' : a.tmps[x]?.getD undef = .slice A m c := by simpa using hx
    simp [go_sem, resolve, invoke, hx', Builtin.len_, run_underlying ht]
  rw [wpOrd, if_pos hq]
  obtain ⟨v, h1, h2⟩ := h (fun a' => wpOrd P ops Q S n q rest a' w) (fun _ h => h)
  have h3 := h1 w hS
  unfold Oper.quietAt at h3
  rw [hrun w] at h3
  obtain ⟨_, rfl⟩ := h3
  exact ⟨hS, _, .inl ⟨hw, fun w' _ => hrun w'⟩, h2⟩
theorem ord_slice {n k : Nat} {q : Nat → Bool} {o : Oper} {rest : List (Nat × Oper)} {a : Act} {w : World} (hq : q k = true) (t : TypeId) (x : Operand) (lo hi mx : Option Operand) (ho : o.op = .slice t x lo hi mx) (hw : Region.wanted o (yielded ops a.tmps) = true) (hS : S w)
    (h : ∀ K : Act → Prop, (∀ a', wpOrd P ops Q S n q rest a' w → K a') → o.quiet P a S K) : wpOrd P ops Q S n q ((k, o) :: rest) a w := by
  rw [wpOrd, if_pos hq]
  refine ⟨hS, ?_⟩
  obtain ⟨v, h1, h2⟩ := h (fun a' => wpOrd P ops Q S n q rest a' w) (fun _ h => h)
  refine ⟨v, .inl ⟨hw, fun w' hS' => ?_⟩, h2⟩
  have h3 := h1 w' hS'
  unfold Oper.quietAt at h3
  have key : ∀ s : Sem Value, (∃ u w2, (do let x ← s; pure (Next.value x) : Sem Next).run P w' = .ok (.value u) w2) ∨ (∃ x w2, (do let x ← s; pure (Next.value x) : Sem Next).run P w' = .halt x w2) := fun s => by
    simp only [Sem.run_bind, Sem.run_pure]
    cases s.run P w' with
    | ok v w2 => exact .inl ⟨v, w2, rfl⟩
    | halt x w2 => exact .inr ⟨x, w2, rfl⟩
  have hr : (∃ u w2, (execOp a.eval o).run P w' = .ok (.value u) w2) ∨ (∃ x w2, (execOp a.eval o).run P w' = .halt x w2) := by
    unfold execOp
    rw [ho]
    exact key _
  rcases hr with ⟨u, w2, e⟩ | ⟨x, w2, e⟩
  · rw [e] at h3 ⊢
    obtain ⟨e1, e2⟩ := h3
    rw [e1, e2]
  · rw [e] at h3
    exact h3.elim
end
end Go.Proofs.YtadldndpphdmpaaGreat
namespace Go.Proofs.YtadldndpphdmpaaGreat
open Go.RowKit


theorem fold_set (l : List Value) : ∀ (k : Nat) (a : Array Value) (i : Nat),
    ((l.zipIdx k).foldl (fun (cs : Array Value) (p : Value × Nat) => cs.setIfInBounds (0 + p.2) p.1) a)[i]? = if k ≤ i ∧ i < k + l.length ∧ i < a.size then l[i - k]? else a[i]? := by
  induction l with
  | nil => intro k a i; simp; intro h1 h2; omega
  | cons v r ih =>
    intro k a i
    rw [List.zipIdx_cons, List.foldl_cons, ih]
    dsimp only
    rw [Nat.zero_add, Array.size_setIfInBounds, Array.getElem?_setIfInBounds, List.length_cons]
    by_cases h1 : i < a.size
    · by_cases h2 : k = i
      · subst h2
        rw [if_neg (by omega), if_pos rfl, if_pos h1, if_pos (by omega)]
        simp
      · by_cases h3 : k + 1 ≤ i ∧ i < k + 1 + r.length
        · rw [if_pos ⟨h3.1, h3.2, h1⟩, if_pos (by omega), show i - k = (i - (k + 1)) + 1 by omega, List.getElem?_cons_succ]
        · rw [if_neg (by omega), if_neg h2, if_neg (by omega)]
    · simp only [h1, and_false, if_false]
      by_cases h2 : k = i
      · subst h2; rw [if_pos rfl, if_neg h1, Array.getElem?_eq_none (by omega)]
      · rw [if_neg h2]

theorem fill_one (size : Nat) (base cs : Array Value) (hb : base.size = size) (hc : cs.size = size) :
    Instr.fill (fun i => some (i * size, size)) base [(0, .agg cs)] = some cs := by
  unfold Instr.fill
  simp only [Nat.zero_mul]
  have e : (Value.agg cs).cells = cs := rfl
  rw [e, if_neg (by simp [hb, hc])]
  unfold Instr.fill
  congr 1
  have h1 : (cs.zipIdx.foldl (fun (a : Array Value) (p : Value × Nat) => a.setIfInBounds (0 + p.2) p.1) base) = cs := by
    apply Array.ext_getElem?
    intro i
    rw [← Array.foldl_toList, Array.toList_zipIdx]
    rw [fold_set cs.toList 0 base i]
    have hl : cs.toList.length = cs.size := by simp
    by_cases h : i < size
    · rw [if_pos ⟨Nat.zero_le _, by omega, by omega⟩]; simp
    · rw [if_neg (by omega), Array.getElem?_eq_none (by omega), Array.getElem?_eq_none (by omega)]
  exact h1

theorem run_buildSlice_one {P : Program} {t e : TypeId} {size : Nat} {z cs : Array Value} (w : World) (ht : P.underlying t = some (.slice e)) (hs : (sizeOf e).run P w = .ok size w) (hz : (zeroValue e).run P w = .ok (.agg z) w) (hc : cs.size = size) (h0 : 0 < size) (h1 : size ≤ 16777216) :
    (Instr.buildSlice t 1 #[(0, .agg cs)]).run P w = .ok (.slice (some ⟨w.heap.size, 0, none⟩) 1 1) (w.alloc (.cells cs e)) := by
  have hf := fill_one size ((Array.range (1 * size)).map ((Value.agg z).cells[· % (Value.agg z).cells.size]!)) cs (by simp) hc
  have h3 : ¬ 16777216 < 1 * size := by omega
  have h4 : ¬ 1 * size = 0 := by omega
  simp only [Nat.one_mul] at hf h3 h4
  simp [Instr.buildSlice, run_underlying ht, hs, hz, hf, h3, h4, newRow]

theorem wpList_buildSlice_one {P : Program} {ops : Array Oper} {rest : List Oper} {o : Oper} {a : Act} {Q : Exit → Act → World → Prop} {w : World} (hgd : o.guard = none) (t e : TypeId) (x : Operand) (ho : o.op = .buildSlice t 1 #[(0, x)]) (size : Nat) (z cs : Array Value) (hx : a.eval x = .agg cs)
    (ht : P.underlying t = some (.slice e)) (hs : (sizeOf e).run P w = .ok size w) (hz : (zeroValue e).run P w = .ok (.agg z) w) (hc : cs.size = size) (h0 : 0 < size) (h1 : size ≤ 16777216)
    (h : wpList P ops Q rest (a.put o.dst (.slice (some ⟨w.heap.size, 0, none⟩) 1 1)) (w.alloc (.cells cs e))) : wpList P ops Q (o :: rest) a w := by
  refine wpList_plain hgd fun K hK => ?_
  have hr := run_buildSlice_one (P := P) (cs := cs) w ht hs hz hc h0 h1
  unfold Oper.wp execOp
  simp only [ho, List.map_toArray, List.map_cons, List.map_nil, hx, Sem.run_bind, hr, Result.andThen_ok, Sem.run_pure]
  exact hK _ _ h
end Go.Proofs.YtadldndpphdmpaaGreat
namespace Go.Proofs.YtadldndpphdmpaaGreat
open Go.RowKit Go.Shelf


theorem wpList_append_one {P : Program} {w0 : World} {ops : Array Oper} {rest : List Oper} {o : Oper} {a : Act} {Q : Exit → Act → World → Prop} (hgd : o.guard = none) (s x : Operand) (t : TypeId)
    (ho : o.op = .call { callee := .builtin .append, args := #[s, x], argTypes := #[t, t] })
    (base : Nat) (e : TypeId) (i : TypeInfo) (z : Value) (bytes : Nat) (ht : P.underlying t = some (.slice e)) (hi : P.info? e = some i) (hz : i.zero = some z)
    (hsize : i.size = 1) (hby : i.bytes = bytes) (hzs : z.cells.size = 1)
    (v : Value) (n : Nat) (xs : List Value) (hs : a.eval s = v) (hown : w0.ownsRow base e 1 v n xs) (u : Value) (b : Nat) (hb : b = w0.heap.size) (hx : a.eval x = .slice (some ⟨b, 0, none⟩) 1 1) (hu : u.oneCell' = true)
    (h63 : n + 1 ≤ maxLen) (hbytes : (n + 1) * bytes ≤ 140737488355328) (hbase : base ≤ w0.heap.size)
    (h : ∀ A' c' w', w'.ownsRow base e 1 (.slice A' (n + 1) c') (n + 1) (xs ++ [u]) → w0.grownBy w' v.ownBlock → n + 1 ≤ c' → wpList P ops Q rest (a.put o.dst (.slice A' (n + 1) c')) w') :
    wpList P ops Q (o :: rest) a (w0.alloc (.cells #[u] e)) := by
  subst hb
  refine wpList_append_own _ hgd s x t ho base e i z 1 bytes ht hi hz hsize hby hzs (by decide) v n xs hs (hown.alloc _) ⟨w0.heap.size, 0, none⟩ 1 1 [u] hx rfl (cell_one_new _ _ _) (by simpa using hu) h63 hbytes (by simp; omega) ?_
  intro v' w' h1 h2 _
  obtain ⟨A', c', rfl, hc⟩ := own_slice h1
  exact h A' c' w' h1 ((World.grownBy_alloc w0 _ _).trans h2) hc
theorem wpListIn_append_one {F : Fence} {m : Nat} {P : Program} {w0 : World} {ops : Array Oper} {rest : List Oper} {o : Oper} {a : Act} {Q : Exit → Act → World → Prop} (hgd : o.guard = none) (s x : Operand) (t : TypeId)
    (ho : o.op = .call { callee := .builtin .append, args := #[s, x], argTypes := #[t, t] })
    (base : Nat) (e : TypeId) (i : TypeInfo) (z : Value) (bytes : Nat) (ht : P.underlying t = some (.slice e)) (hi : P.info? e = some i) (hz : i.zero = some z)
    (hsize : i.size = 1) (hby : i.bytes = bytes) (hzs : z.cells.size = 1)
    (v : Value) (n : Nat) (xs : List Value) (hs : a.eval s = v) (hown : w0.ownsRow base e 1 v n xs) (u : Value) (b : Nat) (hb : b = w0.heap.size) (hx : a.eval x = .slice (some ⟨b, 0, none⟩) 1 1) (hu : u.oneCell' = true)
    (h63 : n + 1 ≤ maxLen) (hbytes : (n + 1) * bytes ≤ 140737488355328) (hbase : base ≤ w0.heap.size)
    (h : ∀ A' c' w', w'.ownsRow base e 1 (.slice A' (n + 1) c') (n + 1) (xs ++ [u]) → w0.grownBy w' v.ownBlock → n + 1 ≤ c' → wpListIn F m P ops Q rest (a.put o.dst (.slice A' (n + 1) c')) w') :
    wpListIn F m P ops Q (o :: rest) a (w0.alloc (.cells #[u] e)) := by
  subst hb
  refine wpListIn_append_own _ hgd s x t ho base e i z 1 bytes ht hi hz hsize hby hzs (by decide) v n xs hs (hown.alloc _) ⟨w0.heap.size, 0, none⟩ 1 1 [u] hx rfl (cell_one_new _ _ _) (by simpa using hu) h63 hbytes (by simp; omega) ?_
  intro v' w' h1 h2 _
  obtain ⟨A', c', rfl, hc⟩ := own_slice h1
  exact h A' c' w' h1 ((World.grownBy_alloc w0 _ _).trans h2) hc
end Go.Proofs.YtadldndpphdmpaaGreat
namespace Go.Proofs.YtadldndpphdmpaaGreat
open Go.RowKit Go.Shelf


theorem wpList_append_st {P : Program} {w0 : World} {ops : Array Oper} {rest : List Oper} {o : Oper} {a : Act} {Q : Exit → Act → World → Prop} (hgd : o.guard = none) (s x : Operand) (t : TypeId)
    (ho : o.op = .call { callee := .builtin .append, args := #[s, x], argTypes := #[t, t] })
    (base : Nat) (e : TypeId) (i : TypeInfo) (z : Value) (size bytes : Nat) (ht : P.underlying t = some (.slice e)) (hi : P.info? e = some i) (hz : i.zero = some z)
    (hsize : i.size = size) (hby : i.bytes = bytes) (hzs : z.cells.size = size) (hsz : 0 < size)
    (v : Value) (n : Nat) (xs : List Value) (hs : a.eval s = v) (hown : w0.ownsRow base e size v n xs) (cs : Array Value) (hc : cs.size = size) (b : Nat) (hb : b = w0.heap.size) (hx : a.eval x = .slice (some ⟨b, 0, none⟩) 1 1) (hu : ∀ u ∈ cs.toList, u.oneCell' = true)
    (h63 : n + 1 ≤ maxLen) (hbytes : (n + 1) * bytes ≤ 140737488355328) (hbase : base ≤ w0.heap.size)
    (h : ∀ A' c' w', w'.ownsRow base e size (.slice A' (n + 1) c') (n + 1) (xs ++ cs.toList) → w0.grownBy w' v.ownBlock → n + 1 ≤ c' → wpList P ops Q rest (a.put o.dst (.slice A' (n + 1) c')) w') :
    wpList P ops Q (o :: rest) a (w0.alloc (.cells cs e)) := by
  subst hb
  refine wpList_append_own _ hgd s x t ho base e i z size bytes ht hi hz hsize hby hzs hsz v n xs hs (hown.alloc _) ⟨w0.heap.size, 0, none⟩ 1 1 cs.toList hx (by simpa using hc) (fun j u hj => ?_) hu h63 hbytes (by simp; omega) ?_
  · rw [Addr.add_mid, Nat.zero_add]
    exact cell_at_new rfl (by simpa using hj)
  intro v' w' h1 h2 _
  obtain ⟨A', c', rfl, hc⟩ := own_slice h1
  exact h A' c' w' h1 ((World.grownBy_alloc w0 _ _).trans h2) hc
end Go.Proofs.YtadldndpphdmpaaGreat
namespace Go.Proofs.YtadldndpphdmpaaGreat
open Go.RowKit


/-- The way on is the only way out. -/
def OnlyN (Q : Exit → Act → World → Prop) : Exit → Act → World → Prop
  | .normal, a, w => Q .normal a w
  | .ret, _, _ => False
  | .exit _, _, _ => False
  | .goto _, _, _ => False
  | .panic _, _, _ => False
  | .outgrown, _, _ => False
theorem OnlyN.normal {Q : Exit → Act → World → Prop} {a : Act} {w : World} (h : Q .normal a w) : OnlyN Q .normal a w := h
theorem OnlyN.imp {Q : Exit → Act → World → Prop} : ∀ (e : Exit) (a : Act) (w : World), OnlyN Q e a w → Q e a w := fun e a w h => by
  cases e <;> first | exact h | exact (h : False).elim
theorem OnlyN.letsOut {Q : Exit → Act → World → Prop} : ¬ LetsOut (OnlyN Q) := fun ⟨_, _, h⟩ => h

def noDefer (ops : Array Oper) : Bool := ops.toList.all fun o => match o.op with | .defer _ => false | _ => true
theorem noDefer_spec {ops : Array Oper} (h : noDefer ops = true) {i : Nat} {o : Oper} (ho : ops[i]? = some o) (c : Call) : o.op ≠ .defer c := by
  intro e
  have h1 := List.all_eq_true.1 h o (by
    have := List.mem_of_getElem? (l := ops.toList) (i := i) (a := o) (by simpa using ho)
    exact this)
  rw [e] at h1
  cases h1

theorem wpOpIn_of_wpOp {P : Program} {ops : Array Oper} {Q : Exit → Act → World → Prop} {l n i : Nat} (hQ : ¬ LetsOut Q) (hd : noDefer ops = true) {K : Act → World → Prop} {a : Act} {w : World} (h : wpOp P ops Q i K a w) :
    wpOpIn (Fence.wide.inRound l) n P ops Q i K a w := by
  unfold wpOp at h
  unfold wpOpIn
  split
  · rename_i e
    simpa [e] using h
  · rename_i o ho
    simp only [ho] at h
    split
    · rename_i hw
      rw [if_pos hw] at h
      rcases h with h | ⟨_, h⟩
      · refine ⟨fun _ _ => trivial, ?_⟩
        rw [Oper.semAt_eq _ _ _ (noDefer_spec hd ho)]
        unfold Oper.wp at h
        generalize (execOp a.eval o).run P w = r at *
        cases r with
        | ok x w' =>
          cases x with
          | enter f args => exact ⟨fun h => (by cases h), CallsIn.inRound l (callsIn_wide.2 h)⟩
          | row row args => exact ⟨fun h => (by cases h), fun c cs _ => let ⟨v, w', r, s⟩ := h c cs; ⟨v, w', r, stepsIn_wide.2 s⟩⟩
          | _ => first | exact h | exact (h : False).elim
        | halt x w' => cases x <;> first | exact h | exact (h : False).elim
      · exact absurd h hQ
    · rename_i hw
      rw [if_neg hw] at h
      exact ⟨fun _ _ => trivial, h⟩
theorem wpAnyIn_of_wpAny {P : Program} {md : Region.Mode} {ops : Array Oper} {Q : Exit → Act → World → Prop} {l n : Nat} (hQ : ¬ LetsOut Q) (hd : noDefer ops = true) : ∀ (f : Nat) (listed : Array Bool) (a : Act) (w : World),
    wpAny P md ops Q f listed a w → wpAnyIn (Fence.wide.inRound l) n P md ops Q f listed a w
  | 0, _, _, _, h => h
  | f + 1, _, _, _, h => ⟨h.1, fun i hi => wpOpIn_mono (fun a' w' h' => wpAnyIn_of_wpAny hQ hd f _ a' w' h') (wpOpIn_of_wpOp hQ hd (h.2 i hi))⟩

theorem wpIn_region_ord {P : Program} {l n : Nat} {id : Nat} {Q : Exit → Act → World → Prop} {a : Act} {w : World} {ol : List Oper} (S : World → Prop) (m : Nat) (q : Nat → Bool) (ord : List (Nat × Oper)) (hm : P.follows .mixedOrders = true)
    (hd : noDefer ol.toArray = true)
    (hB : (Region.noSelect ol.toArray && decide (m < ol.toArray.size) && Region.sinkB .any ol.toArray m && Region.chainB .any ol.toArray m && decide (ord.length = ol.length) && ordB .any ol.toArray m q (ord.map (·.1)) true (Array.replicate ol.toArray.size false)) = true)
    (hord : ∀ x ∈ ord, ol.toArray[x.1]? = some x.2) (h : wpOrd P ol.toArray (OnlyN Q) S m q ord a w.drew) : (Code.region id ol.toArray true).wpIn (Fence.wide.inRound l) n P Q a w := by
  simp only [Bool.and_eq_true, decide_eq_true_eq] at hB
  obtain ⟨⟨⟨⟨⟨hsel, hn⟩, hs⟩, hc⟩, hlen⟩, hmix⟩ := hB
  have inv : HeadInv .any ol.toArray m (Array.replicate ol.toArray.size false) :=
    ⟨by simp, fun j oj _ hl => (by rw [getD_replicate_false] at hl; cases hl), fun t _ ht => getD_in (by simpa using ht) (getD_replicate_false _ _)⟩
  have H := anyT_of_ord (S := S) hsel hs hc hn (fun _ _ _ _ _ h => h) ord true _ a w.drew hord (fun _ => inv) hmix h
  have hA := any_of_anyT _ _ _ _ H
  rw [hlen] at hA
  refine wpIn_mono ?_ OnlyN.imp
  refine wpIn_region_any hm (wpAnyIn_of_wpAny OnlyN.letsOut hd _ _ _ _ ?_)
  simpa using hA
end Go.Proofs.YtadldndpphdmpaaGreat
namespace Go.Proofs.YtadldndpphdmpaaGreat
open Go.RowKit Go.Shelf


theorem ask_drawn {α : Type} (x : Ask α) : ∀ w : World, w.drawn ≤ (w.ask x).2.drawn := by
  induction x with
  | done a => intro w; exact Nat.le_refl _
  | ask what range k ih =>
    intro w
    unfold World.ask
    dsimp only
    split
    · exact ih _ w
    · exact Nat.le_trans (Nat.le_succ _) (ih _ { w with drawn := w.drawn + 1 })
theorem sys_drawn (w : World) (c : Sys) : w.drawn ≤ (w.sys c).2.drawn := by
  have h := ask_drawn (Kernel.perform c w.os) w
  unfold World.sys
  split
  · exact Nat.le_refl _
  · rename_i r os w' _ e
    rw [e] at h
    exact h
theorem viewStore_drawn {p : Program} {w w' : World} {at_ : Addr} {u : TypeId} {k : Addr} {v : Value} {b : Bool} {l : List Addr} (h : w.viewStore p at_ u k v b = .ok (w', l)) : w'.drawn = w.drawn := by
  unfold World.viewStore at h
  simp only [bind, Except.bind, pure, Except.pure] at h
  repeat' split at h
  all_goals first | (cases h; done) | (cases h; rfl)
theorem farStore_drawn {p : Program} {w w' : World} {a : Addr} {v : Value} {b : Bool} {l : List Addr} (h : w.farStore p a v b = .ok (w', l)) : w'.drawn = w.drawn := by
  unfold World.farStore at h
  split at h
  · split at h
    · rename_i r e
      cases h
      exact viewStore_drawn e
    · cases h
  · cases h
theorem run_drawn {α : Type} (P : Program) (s : Sem α) : ∀ (w w' : World) (x : α), s.run P w = .ok x w' → w.drawn ≤ w'.drawn := by
  induction s with
  | pure a => intro w w' x h; simp [Sem.run] at h; exact h.2 ▸ Nat.le_refl _
  | load m a k ih =>
    intro w w' x h
    unfold Sem.run at h
    split at h
    · exact ih _ _ _ _ h
    · split at h
      · exact ih _ _ _ _ h
      · cases h
  | store m a v k ih =>
    intro w w' x h
    cases v <;> simp only [Sem.run] at h
    case agg => cases h
    case tuple => cases h
    all_goals
      split at h
      · split at h
        · cases h
        · have := ih _ _ _ h
          exact this
      · split at h
        · have e := farStore_drawn (by assumption)
          have := ih _ _ _ h
          rw [e] at this
          exact this
        · cases h
  | new o k ih => intro w w' x h; exact ih _ { w with heap := w.heap.push o } _ _ h
  | shape r k ih => intro w w' x h; exact ih _ w _ _ h
  | freeze a n k ih =>
    intro w w' x h
    have := ih (w.freeze a n) _ _ h
    refine Nat.le_trans ?_ this
    unfold World.freeze
    split <;> exact Nat.le_refl _
  | frozen a k ih => intro w w' x h; exact ih _ w _ _ h
  | getObj r k ih =>
    intro w w' x h
    unfold Sem.run at h
    split at h
    · cases h
    · exact ih _ _ _ _ h
    · cases h
  | setObj r o k ih =>
    intro w w' x h
    unfold Sem.run at h
    split at h
    · cases h
    · exact ih { w with heap := w.heap.setIfInBounds r o } _ _ h
    · cases h
  | choose q k ih =>
    intro w w' x h
    unfold Sem.run at h
    split at h
    · exact ih _ _ _ _ h
    · exact Nat.le_trans (Nat.le_succ _) (ih _ { w with drawn := w.drawn + 1 } _ _ h)
  | sys c k ih =>
    intro w w' x h
    exact Nat.le_trans (sys_drawn w c) (ih _ _ _ _ h)
  | program k ih => intro w w' x h; exact ih _ w _ _ h
  | mark m k ih => intro w w' x h; exact ih w _ _ h
  | halt h0 => intro w w' x h; simp [Sem.run] at h

theorem wpList_append_ownD {P : Program} {w : World} {ops : Array Oper} {rest : List Oper} {o : Oper} {a : Act} {Q : Exit → Act → World → Prop} (hgd : o.guard = none) (s x : Operand) (t : TypeId)
    (ho : o.op = .call { callee := .builtin .append, args := #[s, x], argTypes := #[t, t] })
    (base : Nat) (e : TypeId) (i : TypeInfo) (z : Value) (size bytes : Nat) (ht : P.underlying t = some (.slice e)) (hi : P.info? e = some i) (hz : i.zero = some z)
    (hsize : i.size = size) (hby : i.bytes = bytes) (hzs : z.cells.size = size) (hsz : 0 < size)
    (v : Value) (n : Nat) (xs : List Value) (hs : a.eval s = v) (hown : w.ownsRow base e size v n xs)
    (ad : Addr) (m c : Nat) (news : List Value) (hx : a.eval x = .slice (some ad) m c) (hl : news.length = m * size) (hnews : ∀ j u, news[j]? = some u → w.cell? (ad.add j) = some u) (h1 : ∀ u ∈ news, u.oneCell' = true)
    (h63 : n + m ≤ maxLen) (hbytes : (n + m) * bytes ≤ 140737488355328) (hbase : base ≤ w.heap.size)
    (h : ∀ v' w', w'.ownsRow base e size v' (n + m) (xs ++ news) → w.grownBy w' v.ownBlock → w.drawn ≤ w'.drawn → wpList P ops Q rest (a.put o.dst v') w') : wpList P ops Q (o :: rest) a w := by
  obtain ⟨v', w', hr, h2, h3, _⟩ := run_append_own (P := P) w base t o.type e i z size bytes ht hi hz hsize hby hzs hsz v n xs hown ad m c news hl hnews h1 h63 hbytes hbase
  have hd := run_drawn P _ _ _ _ hr
  refine wpList_plain hgd fun K hK => ?_
  unfold Oper.wp execOp
  simp only [ho, resolve, invoke, builtin, Sem.run_bind, Sem.run_pure, Result.andThen_ok, List.map_toArray, List.map_cons, List.map_nil, hs, hx, hr]
  exact hK _ _ (h v' w' h2 h3 hd)
/-- A world behind another: what was there stands, and the tape was asked as often or more. -/
theorem grownN_of_below {w w' : World} (h : Below w.heap.size w w') (hd : w.drawn ≤ w'.drawn) : ∃ q os, w' = Sort.grow (w.drewN q) os := by
  obtain ⟨p, e⟩ := regrown_of_below h
  have hp : p.d = w'.drawn := by rw [e]; rfl
  have : redrawn w p.d = w.drewN (w'.drawn - w.drawn) := by
    rw [hp]
    unfold redrawn World.drewN
    congr 1
    omega
  exact ⟨w'.drawn - w.drawn, p.os, e.trans (by rw [this])⟩
end Go.Proofs.YtadldndpphdmpaaGreat
