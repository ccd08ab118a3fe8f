/- Spans in memory, and the map of their changes. -/
import Derived.Test.YtadldndpphdmpaaGreatG11
import Derived.Maps.RangeWalk
namespace Go.Proofs.YtadldndpphdmpaaGreat
open Go.RowKit Go.Shelf

abbrev Sp.enc (s : Sp) : List Value := [.int .i64 s.nd, .int .i64 s.a, .int .i64 s.b]
abbrev Sp.val (s : Sp) : Array Value := #[.int .i64 s.nd, .int .i64 s.a, .int .i64 s.b]
abbrev RdS := @Rd Sp Sp.enc 3
theorem enc3 (s : Sp) : (Sp.enc s).length = 3 := rfl
/-- A list of spans in memory, and where. -/
abbrev SpP := List Sp × Option Addr × Nat
abbrev SpP.enc (p : SpP) : List Value := [.slice p.2.1 p.1.length p.2.2]
structure SpsM (w : World) (A : Option Addr) (n : Nat) (ls : List (List Sp)) (ps : List SpP) : Prop where
  rd : Rd SpP.enc 1 w A n ps
  eq : ps.map (·.1) = ls
  row : ∀ p ∈ ps, RdS w p.2.1 p.1.length p.1
theorem SpsM.below {w w' : World} {A : Option Addr} {n : Nat} {ls : List (List Sp)} {ps : List SpP} (h : SpsM w A n ls ps) (hb : Below w.heap.size w w') : SpsM w' A n ls ps :=
  ⟨h.rd.below hb, h.eq, fun p hp => (h.row p hp).below hb⟩
theorem SpsM.get {w : World} {A : Option Addr} {n : Nat} {ls : List (List Sp)} {ps : List SpP} (h : SpsM w A n ls ps) {i : Nat} (hi : i < n) :
    ∃ (l : List Sp) (B : Option Addr) (c : Nat) (ad : Addr), ls[i]? = some l ∧ A = some ad ∧ w.cell? (ad.add i) = some (.slice B l.length c) ∧ RdS w B l.length l := by
  obtain ⟨p, ad, h1, h2, h3⟩ := h.rd.get hi
  have h4 := h3 0 _ rfl
  rw [Nat.mul_one] at h4
  refine ⟨p.1, p.2.1, p.2.2, ad, ?_, h2, h4, h.row p (List.mem_of_getElem? h1)⟩
  rw [← h.eq, List.getElem?_map, h1]
  rfl
theorem SpsM.len {w : World} {A : Option Addr} {n : Nat} {ls : List (List Sp)} {ps : List SpP} (h : SpsM w A n ls ps) : ls.length = n := by rw [← h.eq, List.length_map, h.rd.1]

/-- A map of numbers: which keys it has, and what it holds (0, where it has none). -/
def ChD (D : DataW Unit) (S : Int → Prop) (f : Int → Int) : Prop :=
  Maps.IsMap D ∧ ∀ y : Int, (Maps.has D (.int .i64 y) = true ↔ S y) ∧ D.atKey (.int .i64 y) (.lit (.int .i64 0)) = .lit (.int .i64 (f y))
def ChM (w : World) (B k : Nat) (S : Int → Prop) (f : Int → Int) : Prop := ∃ D : DataW Unit, w.ownsMap Tryz.prog 3 (plainElem Tryz.prog 3) B k D ∧ ChD D S f
theorem ChM.kept {w w' : World} {B k : Nat} {S : Int → Prop} {f : Int → Int} {row : Option Nat} (h : ChM w B k S f) (hg : w.grownBy w' row) (hne : some B ≠ row) : ChM w' B k S f := by
  obtain ⟨D, h1, h2⟩ := h
  exact ⟨D, h1.kept hg hne, h2⟩
theorem ChM.alloc {w : World} {B k : Nat} {S : Int → Prop} {f : Int → Int} (h : ChM w B k S f) (o : Obj) : ChM (w.alloc o) B k S f := h.kept (World.grownBy_alloc w o none) (by simp)
theorem ChM.below {w w' : World} {B k : Nat} {S : Int → Prop} {f : Int → Int} (h : ChM w B k S f) (hb : Below w.heap.size w w') : ChM w' B k S f := h.kept (grown_of_below hb none) (by simp)
theorem ChM.lt {w : World} {B k : Nat} {S : Int → Prop} {f : Int → Int} (h : ChM w B k S f) : B < w.heap.size := by
  obtain ⟨D, h1, _⟩ := h
  exact h1.lt
theorem ChM.noCells {w : World} {B k : Nat} {S : Int → Prop} {f : Int → Int} (h : ChM w B k S f) : ∃ o : Obj, w.heap[B]? = some o ∧ o.isCells = false := by
  obtain ⟨D, ⟨es, ck, hh, _⟩, _⟩ := h
  exact ⟨_, hh, rfl⟩
theorem ChM.made (w : World) : ChM (w.alloc (.map #[] 0)) w.heap.size 0 (fun _ => False) (fun _ => 0) :=
  ⟨.map [], World.ownsMap_made w _ _ _, Maps.isMap_empty, fun y => ⟨by simp [Maps.has], rfl⟩⟩
theorem ChD.put {D : DataW Unit} {S : Int → Prop} {f : Int → Int} (h : ChD D S f) (y v : Int) : ChD (D.put (.int .i64 y) (.lit (.int .i64 v))) (fun z => S z ∨ z = y) (fun z => if z = y then v else f z) := by
  obtain ⟨hM, hD⟩ := h
  refine ⟨by obtain ⟨es, rfl⟩ := hM; exact ⟨_, rfl⟩, fun z => ?_⟩
  by_cases e : z = y
  · subst e
    refine ⟨by rw [Maps.has_put_same hM (by trivial)]; simp, ?_⟩
    dsimp only
    rw [if_pos rfl]
    exact Maps.atKey_put_same hM (by trivial) _ _
  · have hne : Lit.int .i64 z ≠ Lit.int .i64 y := by intro e'; injection e' with _ e'; exact e e'
    refine ⟨?_, ?_⟩
    · rw [Maps.has_put_other hne, (hD z).1]
      simp [e]
    · dsimp only
      rw [Maps.atKey_put_other hne, if_neg e]
      exact (hD z).2
theorem ChM.ext {w : World} {B k k' : Nat} {S S' : Int → Prop} {f f' : Int → Int} (h : ChM w B k S f) (hk : k ≤ k') (hS : ∀ y, S y ↔ S' y) (hf : ∀ y, f y = f' y) : ChM w B k' S' f' := by
  obtain ⟨D, h1, h2, h3⟩ := h
  exact ⟨D, h1.mono hk, h2, fun y => ⟨(h3 y).1.trans (hS y), by rw [← hf]; exact (h3 y).2⟩⟩
theorem chg_app (l m : List Sp) (y : Int) : chg (l ++ m) y = chg l y + chg m y := by unfold chg; rw [List.map_append, List.sum_append]
theorem chg_one (s : Sp) (y : Int) : chg [s] y = chS s y := by unfold chg; simp
theorem chg_bd : ∀ (l : List Sp) (y : Int), -(l.length : Int) ≤ chg l y ∧ chg l y ≤ l.length
  | [], y => by simp [chg]
  | s :: l, y => by
    have := chg_bd l y
    have e : chg (s :: l) y = chS s y + chg l y := rfl
    rw [e, List.length_cons]
    unfold chS
    by_cases h1 : s.a = y <;> by_cases h2 : s.b = y <;> simp [h1, h2] <;> omega
def keyP (l : List Sp) (y : Int) : Prop := ∃ s ∈ l, y = s.a ∨ y = s.b
theorem wf_i {y : Int} (h0 : -4000000000 ≤ y) (h1 : y ≤ 4000000000) : (Lit.int .i64 y).wf = true := WalkArith.wf_i64 (by omega)
theorem zeroI (w : World) : (zeroValue 3).run Tryz.prog w = .ok (.int .i64 0) w := by kernel_rfl
theorem infoSp : (Tryz.prog.info? 84).map (fun i => (i.zero, i.size, i.bytes)) = some (some (.agg #[.int .i64 0, .int .i64 0, .int .i64 0]), 3, 24) := by kernel_rfl
end Go.Proofs.YtadldndpphdmpaaGreat
