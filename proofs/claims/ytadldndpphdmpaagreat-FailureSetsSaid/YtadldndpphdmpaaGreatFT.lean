/- The trees of a valid tree, in memory. -/
import Derived.Test.YtadldndpphdmpaaGreatG6
import Derived.Maps.OwnSet
import Derived.Maps.OwnOps
namespace Go.Proofs.YtadldndpphdmpaaGreat
open Go.RowKit Go.Shelf
section
variable {P : Program} {ops : Array Oper} {Q : Exit → Act → World → Prop} {S : World → Prop}

/-- An operation that yields one value in every world of the class. -/
theorem ord_val {n k : Nat} {q : Nat → Bool} {o : Oper} {rest : List (Nat × Oper)} {a : Act} {w : World} (hq : q k = true) (v : Value) (hrun : ∀ w', S w' → (execOp a.eval o).run P w' = .ok (.value v) w') (hw : Region.wanted o (yielded ops a.tmps) = true) (hS : S w)
    (h : wpOrd P ops Q S n q rest (a.put o.dst v) w) : wpOrd P ops Q S n q ((k, o) :: rest) a w := by
  rw [wpOrd, if_pos hq]
  exact ⟨hS, v, .inl ⟨hw, hrun⟩, h⟩
theorem ord_valQ {n k : Nat} {q : Nat → Bool} {o : Oper} {rest : List (Nat × Oper)} {a : Act} {w : World} (hq : q k = true) (v : Value) (hrun : ∀ w', (execOp a.eval o).run P w' = .ok (.value v) w') (hw : Region.wanted o (yielded ops a.tmps) = true) (hS : S w)
    (h : ∀ K : Act → Prop, (∀ a', wpOrd P ops Q S n q rest a' w → K a') → o.quiet P a S K) : wpOrd P ops Q S n q ((k, o) :: rest) a w := by
  rw [wpOrd, if_pos hq]
  obtain ⟨v', h1, h2⟩ := h (fun a' => wpOrd P ops Q S n q rest a' w) (fun _ h => h)
  have h3 := h1 w hS
  unfold Oper.quietAt at h3
  rw [hrun w] at h3
  obtain ⟨_, rfl⟩ := h3
  exact ⟨hS, _, .inl ⟨hw, fun w' _ => hrun w'⟩, h2⟩
theorem run_nilCheck {a : Act} {o : Oper} (x : Operand) (ad : Addr) (ho : o.op = .nilCheck x) (hx : a.eval x = .pointer (some ad)) (w' : World) : (execOp a.eval o).run P w' = .ok (.value (.pointer (some ad))) w' := by
  unfold execOp; simp only [ho, hx]; rfl
theorem run_iface {a : Act} {o : Oper} (x : Operand) (t : TypeId) (v : Value) (hr : ∀ w, (Instr.makeInterface t v).run P w = .ok (.iface t v) w) (ho : o.op = .makeInterface t x) (hx : a.eval x = v) (w' : World) : (execOp a.eval o).run P w' = .ok (.value (.iface t v)) w' := by
  unfold execOp; simp only [ho, hx, Sem.run_bind, hr, Result.andThen_ok, Sem.run_pure]
theorem run_len2 {a : Act} {o : Oper} (x : Nat) (t e : TypeId) (ht : P.underlying t = some (.slice e)) (A : Option Addr) (m c : Nat) (ho : o.op = .call { callee := .builtin .len, args := #[.tmp x], argTypes := #[t] }) (hx : a.tmps.getD x undef = .slice A m c) (w' : World) : (execOp a.eval o).run P w' = .ok (.value (.int .i64 m)) w' := by
  unfold execOp
  rw [ho]
  have hx' : a.tmps[x]?.getD undef = .slice A m c := by simpa using hx
  simp [go_sem, resolve, invoke, hx', Builtin.len_, run_underlying ht]
end

/-- The rule of a node, as the program holds it. -/
abbrev ruleV (x : Nd) : Value := if x.kind = 1 then .iface 95 (.agg #[]) else .iface 105 (.agg #[.int .i64 (need x), .int .i64 x.hold])

/-- The effects of sets that are known. -/
def KnownD (t : List Nd) (D : DataW Unit) : Prop := Maps.IsMap D ∧ ∀ s : Nat, Maps.has D (.int .u64 (s : Int)) = true → D.atKey (.int .u64 (s : Int)) (.lit (.int .u64 0)) = .lit (.int .u64 (eff t s))
def Known (w : World) (M k : Nat) (t : List Nd) : Prop := ∃ D : DataW Unit, w.ownsMap Tryz.prog 57 (plainElem Tryz.prog 57) M k D ∧ KnownD t D
theorem Known.kept {w w' : World} {M k : Nat} {t : List Nd} {row : Option Nat} (h : Known w M k t) (hg : w.grownBy w' row) (hne : some M ≠ row) : Known w' M k t := by
  obtain ⟨D, h1, h2⟩ := h
  exact ⟨D, h1.kept hg hne, h2⟩
theorem Known.alloc {w : World} {M k : Nat} {t : List Nd} (h : Known w M k t) (o : Obj) : Known (w.alloc o) M k t := h.kept (World.grownBy_alloc w o none) (by simp)
theorem Known.below {w w' : World} {M k : Nat} {t : List Nd} (h : Known w M k t) (hb : Below w.heap.size w w') : Known w' M k t := h.kept (grown_of_below hb none) (by simp)
theorem Known.set {w : World} {M k : Nat} {t : List Nd} (h : Known w M k t) {a : Addr} (ha : M ≠ a.block) (v : Value) : Known (w.setCell a v) M k t := h.kept (grown_set w a v) (fun e => ha (by cases e; rfl))
theorem Known.lt {w : World} {M k : Nat} {t : List Nd} (h : Known w M k t) : M < w.heap.size := by
  obtain ⟨D, h1, _⟩ := h
  exact h1.lt
theorem Known.noCells {w : World} {M k : Nat} {t : List Nd} (h : Known w M k t) : ∃ o : Obj, w.heap[M]? = some o ∧ o.isCells = false := by
  obtain ⟨D, ⟨es, ck, hh, _⟩, _⟩ := h
  exact ⟨_, hh, rfl⟩
theorem Known.made (w : World) (t : List Nd) : Known (w.alloc (.map #[] 0)) w.heap.size 0 t :=
  ⟨.map [], World.ownsMap_made w _ _ _, Maps.isMap_empty, fun s h => by simp [Maps.has] at h⟩
theorem Known.mono {w : World} {M k k' : Nat} {t : List Nd} (h : Known w M k t) (hk : k ≤ k') : Known w M k' t := by
  obtain ⟨D, h1, h2⟩ := h
  exact ⟨D, h1.mono hk, h2⟩

/-- Whatever lay below a place, but for one block, lies as it lay. -/
structure BB (B M : Nat) (w w' : World) : Prop where
  os : w'.os = w.os
  tape : w'.tape = w.tape
  output : w'.output = w.output
  size : w.heap.size ≤ w'.heap.size
  block : ∀ k, k < B → k ≠ M → w'.heap[k]? = w.heap[k]?
theorem BB.refl (B M : Nat) (w : World) : BB B M w w := ⟨rfl, rfl, rfl, Nat.le_refl _, fun _ _ _ => rfl⟩
theorem BB.trans {B M : Nat} {a b c : World} (h : BB B M a b) (k : BB B M b c) : BB B M a c :=
  ⟨k.os.trans h.os, k.tape.trans h.tape, k.output.trans h.output, Nat.le_trans h.size k.size, fun i hi hne => (k.block i hi hne).trans (h.block i hi hne)⟩
theorem BB.of_below {B B' M : Nat} {a b : World} (h : Below B' a b) (hB : B ≤ B') : BB B M a b := ⟨h.os, h.tape, h.output, h.size, fun i hi _ => h.block i (by omega)⟩
theorem BB.grown {B M : Nat} {a b c : World} {row : Option Nat} (h : BB B M a b) (hg : b.grownBy c row) (hr : ∀ r, row = some r → r = M ∨ B ≤ r) (hB : B ≤ b.heap.size) : BB B M a c :=
  h.trans ⟨hg.os, hg.tape, hg.output, hg.size, fun i hi hne => hg.block i (by omega) (fun e => by rcases hr i e.symm with h1 | h1 <;> omega)⟩
theorem BB.below {B B' M : Nat} {a b : World} (h : BB B M a b) (hB : B' ≤ M) (hB2 : B' ≤ B) : Below B' a b := ⟨h.os, h.tape, h.output, h.size, fun i hi => h.block i (by omega) (by omega)⟩
theorem BB.lower {B B' M : Nat} {a b : World} (h : BB B M a b) (hB : B' ≤ B) : BB B' M a b := ⟨h.os, h.tape, h.output, h.size, fun i hi hne => h.block i (by omega) hne⟩
theorem BB.cell {B M : Nat} {a b : World} (h : BB B M a b) {p : Addr} {v : Value} (hp : p.block < B) (hM : ∃ o : Obj, a.heap[M]? = some o ∧ o.isCells = false) (hc : a.cell? p = some v) : b.cell? p = some v := by
  obtain ⟨o, h1, h2⟩ := hM
  have hne : p.block ≠ M := fun e => by
    obtain ⟨o', h3, h4⟩ := cells_of_cell hc
    rw [e, h1] at h3
    cases h3
    rw [h2] at h4
    cases h4
  exact (World.cell?_of_block (h.block p.block hp hne)).trans hc

/-- The trees of a valid tree: where they lie, and what they hold. -/
structure FT (w : World) (T : Nat) (t : List Nd) (A : Option Addr) (n c : Nat) (ms : List NdM) (R : Option Addr) (cr M k : Nat) : Prop where
  blk : Blk w T 60 #[.slice A n c, .slice R n cr, .int .u64 (bas t), .map (some M)]
  tr : TrM w t A n ms
  rl : Rd (fun x => [ruleV x]) 1 w R n t
  kn : Known w M k t
  ok : TrOk t
theorem TrM.bb {B M : Nat} {w w' : World} {t : List Nd} {A : Option Addr} {n : Nat} {ms : List NdM} (h : TrM w t A n ms) (hb : BB B M w w') (hB : w.heap.size ≤ B) (hM : ∃ o : Obj, w.heap[M]? = some o ∧ o.isCells = false) : TrM w' t A n ms :=
  ⟨⟨h.rd.1, fun i x hx => by
      obtain ⟨ad, e, ha⟩ := h.rd.2 i x hx
      exact ⟨ad, e, fun j v hj => hb.cell (Nat.lt_of_lt_of_le (cell_lt (ha j v hj)) hB) hM (ha j v hj)⟩⟩, h.eq,
    fun m hm => ⟨⟨(h.nd m hm).ins.1, fun i x hx => by
      obtain ⟨ad, e, ha⟩ := (h.nd m hm).ins.2 i x hx
      exact ⟨ad, e, fun j v hj => hb.cell (Nat.lt_of_lt_of_le (cell_lt (ha j v hj)) hB) hM (ha j v hj)⟩⟩, (h.nd m hm).len, (h.nd m hm).cap, (h.nd m hm).nam⟩, h.big⟩
theorem Rd.bb {α : Type} {enc : α → List Value} {k B M : Nat} {w w' : World} {A : Option Addr} {n : Nat} {xs : List α} (h : Rd enc k w A n xs) (hb : BB B M w w') (hB : w.heap.size ≤ B) (hM : ∃ o : Obj, w.heap[M]? = some o ∧ o.isCells = false) : Rd enc k w' A n xs :=
  ⟨h.1, fun i x hx => by
      obtain ⟨ad, e, ha⟩ := h.2 i x hx
      exact ⟨ad, e, fun j v hj => hb.cell (Nat.lt_of_lt_of_le (cell_lt (ha j v hj)) hB) hM (ha j v hj)⟩⟩
theorem FT.move {w w' : World} {T : Nat} {t : List Nd} {A : Option Addr} {n c : Nat} {ms : List NdM} {R : Option Addr} {cr M k k' : Nat} (h : FT w T t A n c ms R cr M k) (hb : BB w.heap.size M w w') (hk : Known w' M k' t) : FT w' T t A n c ms R cr M k' := by
  have hM := h.kn.noCells
  have hTM : T ≠ M := fun e => by
    obtain ⟨o, h1, h2⟩ := hM
    rw [← e, show w.heap[T]? = _ from h.blk] at h1
    cases h1
    cases h2
  exact ⟨(hb.block T h.blk.lt hTM).trans h.blk, h.tr.bb hb (Nat.le_refl _) hM, h.rl.bb hb (Nat.le_refl _) hM, hk, h.ok⟩
theorem FT.below {w w' : World} {T : Nat} {t : List Nd} {A : Option Addr} {n c : Nat} {ms : List NdM} {R : Option Addr} {cr M k : Nat} (h : FT w T t A n c ms R cr M k) (hb : Below w.heap.size w w') : FT w' T t A n c ms R cr M k :=
  h.move (BB.of_below hb (Nat.le_refl _)) (h.kn.below hb)
theorem FT.ne {w : World} {T : Nat} {t : List Nd} {A : Option Addr} {n c : Nat} {ms : List NdM} {R : Option Addr} {cr M k : Nat} (h : FT w T t A n c ms R cr M k) : M ≠ T := fun e => by
  obtain ⟨o, h1, h2⟩ := h.kn.noCells
  rw [e, show w.heap[T]? = _ from h.blk] at h1
  cases h1
  cases h2
theorem mkSome (a b : Int) (w : World) : (Instr.makeInterface 105 (.agg #[.int .i64 a, .int .i64 b])).run Tryz.prog w = .ok (.iface 105 (.agg #[.int .i64 a, .int .i64 b])) w := by kernel_rfl
theorem mkOne (w : World) : (Instr.makeInterface 95 (.agg #[])).run Tryz.prog w = .ok (.iface 95 (.agg #[])) w := by kernel_rfl
theorem infoR : (Tryz.prog.info? 77).map (fun i => (i.zero, i.size, i.bytes)) = some (some Value.nilIface, 1, 16) := by kernel_rfl
end Go.Proofs.YtadldndpphdmpaaGreat
