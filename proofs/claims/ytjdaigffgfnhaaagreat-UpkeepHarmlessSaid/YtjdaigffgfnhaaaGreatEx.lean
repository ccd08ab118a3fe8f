import Derived.Test.YtjdaigffgfnhaaaGreatIt
namespace Go.Proofs.YtjdaigffgfnhaaaGreat
open Go.RowKit Go.Shelf

attribute [local go_sem] Oper.semAt_some

set_option maxHeartbeats 1000000 in
theorem highs_in (n : Nat) (a b : Array Value) (hsz : a.size = 2 ∧ b.size = 3) (w : World) :
    CallsIn Fence.wide n Tryz.prog 65 #[.agg a, .agg b] w fun e w' => e = .returned (.func (.func 77) #[] #[.pointer (some ⟨w.heap.size + 1, 0, none⟩), .pointer (some ⟨w.heap.size, 0, none⟩)]) ∧ (w.alloc (.cells a 64)).alloc (.cells b 24) = w' := by
  obtain ⟨ha, hb⟩ := hsz
  refine callsIn_of_wp Tryz.func65 rfl trivial ?_ rfl
  simp only [Tryz.ntmps65, List.size_toArray, List.length_cons, List.length_nil, Nat.reduceAdd, Nat.reduceSub, Array.replicate_succ, Array.replicate_zero, List.push_toArray, List.append_toArray, List.nil_append, List.cons_append]
  gi_wp2
  go_ret
  exact ⟨rfl, rfl⟩

/-- A map that is a set of years. -/
def Yset (w : World) (B k : Nat) (S : Int → Prop) : Prop :=
  ∃ D : DataW Unit, w.ownsMap Tryz.prog 3 (plainElem Tryz.prog 4) B k D ∧ Maps.IsMap D ∧ ∀ y : Int, Maps.has D (.int .i64 y) = true ↔ S y

theorem Yset.kept {w w' : World} {B k : Nat} {S : Int → Prop} {row : Option Nat} (h : Yset w B k S) (hg : w.grownBy w' row) (hne : some B ≠ row) : Yset w' B k S := by
  obtain ⟨D, h1, h3, h2⟩ := h
  exact ⟨D, h1.kept hg hne, h3, h2⟩
theorem Yset.alloc {w : World} {B k : Nat} {S : Int → Prop} (h : Yset w B k S) (o : Obj) : Yset (w.alloc o) B k S := h.kept (World.grownBy_alloc w o none) (by simp)
theorem Yset.lt {w : World} {B k : Nat} {S : Int → Prop} (h : Yset w B k S) : B < w.heap.size := by
  obtain ⟨D, h1, _⟩ := h
  exact h1.lt
theorem Yset.noCells {w : World} {B k : Nat} {S : Int → Prop} (h : Yset w B k S) : ∃ o : Obj, w.heap[B]? = some o ∧ o.isCells = false := by
  obtain ⟨D, ⟨es, ck, hh, _⟩, _, _⟩ := h
  exact ⟨_, hh, rfl⟩
theorem Yset.mono {w : World} {B k k' : Nat} {S S' : Int → Prop} (h : Yset w B k S) (hk : k ≤ k') (hS : ∀ y, S y ↔ S' y) : Yset w B k' S' := by
  obtain ⟨D, h1, h3, h2⟩ := h
  exact ⟨D, h1.mono hk, h3, fun y => (h2 y).trans (hS y)⟩
theorem Yset.made (w : World) : Yset (w.alloc (.map #[] 0)) w.heap.size 0 (fun _ => False) :=
  ⟨.map [], World.ownsMap_made w _ _ _, Maps.isMap_empty, fun y => by simp [Maps.has]⟩

theorem wf_small {y : Int} (h0 : -1000000 ≤ y) (h1 : y ≤ 1000000) : (Lit.int .i64 y).wf = true := WalkArith.wf_i64 (by omega)

set_option maxHeartbeats 1000000 in
theorem add_any (B k : Nat) (S : Int → Prop) (y : Int) (w : World) (h : Yset w B k S) (hk : k < 100000) (y0 : -1000000 ≤ y) (y1 : y ≤ 1000000) :
    Calls Tryz.prog 41 #[.map (some B), .int .i64 y] w fun e w' => e = .returned (.tuple #[]) ∧ Yset w' B (k + 1) (fun z => S z ∨ z = y) ∧ w.grownBy w' (some B) := by
  obtain ⟨D, h1, h3, h2⟩ := h
  have HS := Lib.hid h2; clear h2
  have HM := Lib.hid h3; clear h3
  go_enter Tryz.func41, Tryz.ntmps41
  go_wp2_with (at_mapUpdate; refine wpList_mapUpdate_own _ rfl _ _ _ 112 rfl 3 4 (Maps.int_keyed Tryz.underlying3) Tryz.underlying112 _ B k _ rfl h1 (by unfold maxLen; omega) _ _ _ rfl rfl (Maps.keyOf_int_mk Tryz.underlying3 (wf_small y0 y1)) _ [] (plainElem_bool Tryz.underlying4 true) ?_; intro w1 hown1 hgrow1)
  go_end0
  refine ⟨rfl, ⟨_, hown1, ?_, fun z => ?_⟩, hgrow1⟩
  · obtain ⟨es, rfl⟩ := HM.out
    exact ⟨_, rfl⟩
  · by_cases hz : z = y
    · subst hz
      rw [Maps.has_put_same HM.out (by trivial)]
      simp
    · rw [Maps.has_put_other (by intro e; cases e; exact hz rfl), HS.out z]
      simp [hz]

def yhS (f d m lvl : Int) (hs : List High) (y : Int) : Prop := ∃ h, (y, h) ∈ yhAll f d m hs ∧ lvl < h.level

theorem highs_stops (n : Nat) (hn : 1 ≤ n) (Br Bw : Nat) (f d m : Int) (A : Option Addr) (len c : Nat) (hs : List High) (w : World)
    (r0 : w.cell? ⟨Br, 0, none⟩ = some (.int .i64 f)) (r2 : w.cell? ⟨Br, 2, none⟩ = some (.slice A len c)) (w0 : w.cell? ⟨Bw, 0, none⟩ = some (.int .i64 d)) (w1 : w.cell? ⟨Bw, 1, none⟩ = some (.int .i64 m))
    (hr : RdH w A len hs) (hlen : len ≤ 300) (hok : RowsOK f hs) (f0 : 0 ≤ f) (f1 : f ≤ 9999) (d0 : 0 ≤ d) (d1 : d ≤ 364) (m0 : 1 ≤ m) (m1 : m ≤ 365) :
    SeqStopsK Fence.wide n Tryz.prog 77 #[.pointer (some ⟨Br, 0, none⟩), .pointer (some ⟨Bw, 0, none⟩)] Yh.encs KeepsCells (fun ys => ys.map (fun x : Yh => (x.y, x.h)) = yhAll f d m hs) (fun _ => True) (2 * len) w :=
  fun l J Jx W hW hJ _ hY h0 => highs1_in Fence.wide n rfl hn l Br Bw f d m A len c hs J Jx W hY hJ (cell_below hW r0) (cell_below hW r2) (cell_below hW w0) (cell_below hW w1) (hr.below hW) hlen hok f0 f1 d0 d1 m0 m1 h0

theorem grown_tr {a b c : World} {B : Nat} {row : Option Nat} (h : a.grownBy b (some B)) (k : b.grownBy c row) (hr : ∀ r, row = some r → r = B ∨ a.heap.size ≤ r) : a.grownBy c (some B) :=
  ⟨k.os.trans h.os, k.tape.trans h.tape, k.output.trans h.output, Nat.le_trans h.size k.size, fun i hi hne => (k.block i (Nat.lt_of_lt_of_le hi h.size) (fun e => by
    rcases hr i e.symm with rfl | h'
    · exact hne rfl
    · omega)).trans (h.block i hi hne)⟩
theorem grown_refl (a : World) (B : Nat) : a.grownBy a (some B) := ⟨rfl, rfl, rfl, Nat.le_refl _, fun _ _ _ => rfl⟩
theorem grown_of_below {a b : World} (h : Below a.heap.size a b) (row : Option Nat) : a.grownBy b row := ⟨h.os, h.tape, h.output, h.size, fun i hi _ => h.block i hi⟩

theorem cell_at_new {w : World} {cs : Array Value} {t : TypeId} {i : Nat} {v : Value} {b : Nat} (hb : b = w.heap.size) (h : cs[i]? = some v) : (w.alloc (.cells cs t)).cell? ⟨b, i, none⟩ = some v := by
  subst hb
  unfold World.cell?
  rw [World.alloc_heap_new]
  exact h

/-- The set after what has come. -/
def exS (S : Int → Prop) (lvl : Int) (pre : List Yh) (z : Int) : Prop := S z ∨ ∃ x ∈ pre, x.y = z ∧ lvl < x.h.level
theorem exS_snoc (S : Int → Prop) (lvl : Int) (pre : List Yh) (x : Yh) (z : Int) : exS S lvl (pre ++ [x]) z ↔ exS S lvl pre z ∨ (x.y = z ∧ lvl < x.h.level) := by
  unfold exS; simp [or_and_right, exists_or, or_assoc]
theorem exS_all {S : Int → Prop} {f d m lvl : Int} {hs : List High} {ys : List Yh} (h : ys.map (fun x : Yh => (x.y, x.h)) = yhAll f d m hs) (z : Int) : exS S lvl ys z ↔ S z ∨ yhS f d m lvl hs z := by
  unfold exS yhS
  rw [← h]
  simp only [List.mem_map, Prod.mk.injEq]
  constructor
  · rintro (h | ⟨x, hx, rfl, hl⟩)
    · exact .inl h
    · exact .inr ⟨x.h, ⟨x, hx, rfl, rfl⟩, hl⟩
  · rintro (h | ⟨g, ⟨x, hx, rfl, rfl⟩, hl⟩)
    · exact .inl h
    · exact .inr ⟨x, hx, rfl, hl⟩

set_option maxRecDepth 100000 in
set_option maxHeartbeats 2000000 in
theorem exceeded_any (B k : Nat) (S : Int → Prop) (f y d m lvl : Int) (A : Option Addr) (len c : Nat) (hs : List High) (w : World) (hY : Yset w B k S) (hk : k + 2 * len < 100000)
    (hr : RdH w A len hs) (hlen : len ≤ 300) (hok : RowsOK f hs) (f0 : 0 ≤ f) (f1 : f ≤ 9999) (d0 : 0 ≤ d) (d1 : d ≤ 364) (m0 : 1 ≤ m) (m1 : m ≤ 365) :
    Calls Tryz.prog 40 #[.agg #[.int .i64 d, .int .i64 m], .agg #[.int .i64 f, .int .i64 y, .slice A len c], .int .i64 lvl, .func (.func 41) #[.map (some B)] #[]] w fun e w' => e = .returned (.tuple #[]) ∧ Yset w' B (k + 2 * len) (fun z => S z ∨ yhS f d m lvl hs z) ∧ w.grownBy w' (some B) := by
  refine (callsIn_wide (n := 9)).1 ?_
  refine callsIn_of_wp_marks Tryz.func40 rfl trivial ?_ rfl
  simp only [Tryz.ntmps40, List.size_toArray, List.length_cons, List.length_nil, Nat.reduceAdd, Nat.reduceSub, Array.replicate_succ, Array.replicate_zero, List.push_toArray, List.append_toArray, List.nil_append, List.cons_append]
  gi_wp2_with (refine ⟨trivial, ?_⟩; gi_at_call 65; refine (highs_in _ _ _ ⟨rfl, rfl⟩ _).mono ?_; rintro e w' ⟨rfl, rfl⟩)
  obtain ⟨W0, hW0⟩ : ∃ W0, ((((((w.alloc (Obj.cells #[Value.int IntKind.i64 d, Value.int IntKind.i64 m] 64)).alloc (Obj.cells #[Value.int IntKind.i64 f, Value.int IntKind.i64 y, Value.slice A len c] 24)).alloc (Obj.cells #[Value.int IntKind.i64 lvl] 3)).alloc (Obj.cells #[Value.func (Fn.func 41) #[Value.map (some B)] #[]] 114)).alloc (Obj.cells #[Value.int IntKind.i64 d, Value.int IntKind.i64 m] 64)).alloc (Obj.cells #[Value.int IntKind.i64 f, Value.int IntKind.i64 y, Value.slice A len c] 24)) = W0 := ⟨_, rfl⟩
  have hsz : W0.heap.size = w.heap.size + 6 := by rw [← hW0]; simp
  have hB0 : Below w.heap.size w W0 := by
    rw [← hW0]
    exact ((((((Below.refl _ w).alloc (Nat.le_refl _) _).alloc (by simp) _).alloc (by simp; omega) _).alloc (by simp; omega) _).alloc (by simp; omega) _).alloc (by simp; omega) _
  have hYs : Yset W0 B k S := hY.kept (grown_of_below hB0 none) (by simp)
  have q2 : W0.cell? ⟨w.heap.size + 1 + 1, 0, none⟩ = some (.int .i64 lvl) := by rw [← hW0]; exact cell_alloc (cell_alloc (cell_alloc (cell_at_new (by simp) rfl) _) _) _
  have q3 : W0.cell? ⟨w.heap.size + 1 + 1 + 1, 0, none⟩ = some (.func (.func 41) #[.map (some B)] #[]) := by rw [← hW0]; exact cell_alloc (cell_alloc (cell_at_new (by simp) rfl) _) _
  have q4 : W0.cell? ⟨w.heap.size + 1 + 1 + 1 + 1, 0, none⟩ = some (.int .i64 d) := by rw [← hW0]; exact cell_alloc (cell_at_new (by simp) rfl) _
  have q5 : W0.cell? ⟨w.heap.size + 1 + 1 + 1 + 1, 1, none⟩ = some (.int .i64 m) := by rw [← hW0]; exact cell_alloc (cell_at_new (by simp) rfl) _
  have q6 : W0.cell? ⟨w.heap.size + 1 + 1 + 1 + 1 + 1, 0, none⟩ = some (.int .i64 f) := by rw [← hW0]; exact cell_at_new (by simp) rfl
  have q7 : W0.cell? ⟨w.heap.size + 1 + 1 + 1 + 1 + 1, 2, none⟩ = some (.slice A len c) := by rw [← hW0]; exact cell_at_new (by simp) rfl
  rw [hW0]
  clear hW0
  have hBl := hY.lt
  have HW := highs_stops 8 (by omega) _ _ f d m A len c hs W0 q6 q7 q4 q5 (hr.below hB0) hlen hok f0 f1 d0 d1 m0 m1
  refine wpIn_rangeFunc_ownH rfl (by omega) (gf := 77) (lb := #[.pointer (some ⟨w.heap.size + 1 + 1 + 1 + 1 + 1, 0, none⟩), .pointer (some ⟨w.heap.size + 1 + 1 + 1 + 1, 0, none⟩)]) rfl trivial (enters_of Tryz.func77 (by kernel_rfl) rfl)
    HW (fun h k => h.trans k) (fun W l o o' _ hl ho _ => KeepsCells.putObj o' hl ho) (Below.refl _ _) (fun _ => rfl)
    (fun pre W => (W.cell? ⟨w.heap.size + 1 + 1, 0, none⟩ = some (.int .i64 lvl) ∧ W.cell? ⟨w.heap.size + 1 + 1 + 1, 0, none⟩ = some (.func (.func 41) #[.map (some B)] #[])) ∧ Yset W B (k + pre.length) (exS S lvl pre) ∧ w.grownBy W (some B))
    (fun _ _ _ => False)
    (fun s X Y row hs hg hr => ⟨⟨cell_kept hs.1.1 hg (fun r e => (hr r e).2), cell_kept hs.1.2 hg (fun r e => (hr r e).2)⟩, hs.2.1.kept hg (fun e => by have := (hr _ e.symm).1; omega), grown_tr hs.2.2 hg (fun r e => .inr (by have := (hr r e).1; omega))⟩)
    (fun _ _ _ _ _ hs _ _ => hs)
    ⟨⟨q2, q3⟩, hYs.mono (by simp) (fun y => by simp [exS]), grown_of_below hB0 _⟩
    (fun x a' W => ∃ Bx, W.cell? ⟨Bx, 2, none⟩ = some (.int .i64 x.h.level) ∧ a' = { tmps := #[.agg #[.int .i64 d, .int .i64 m], .agg #[.int .i64 f, .int .i64 y, .slice A len c], .int .i64 lvl, .func (.func 41) #[.map (some B)] #[], .pointer (some ⟨w.heap.size, 0, none⟩), .pointer (some ⟨w.heap.size + 1, 0, none⟩), .pointer (some ⟨w.heap.size + 1 + 1, 0, none⟩), .pointer (some ⟨w.heap.size + 1 + 1 + 1, 0, none⟩), .int .i64 x.y, .pointer (some ⟨Bx, 0, none⟩), .agg #[.int .i64 d, .int .i64 m], .agg #[.int .i64 f, .int .i64 y, .slice A len c], .func (.func 77) #[] #[.pointer (some ⟨w.heap.size + 1 + 1 + 1 + 1 + 1, 0, none⟩), .pointer (some ⟨w.heap.size + 1 + 1 + 1 + 1, 0, none⟩)], .int .i64 x.y, .agg #[.int .i64 x.h.year, .int .i64 x.h.day, .int .i64 x.h.level], undef, undef, undef, undef, undef, undef, undef], defers := [] })
    (fun x a' _ X Y row hs hg hr => by obtain ⟨Bx, h1, h2⟩ := hs; exact ⟨Bx, cell_kept h1 hg (fun r e => (hr r e).2), h2⟩)
    ?assign ?body ?done ?stop
  case assign =>
    rintro l pre x W K ⟨⟨i1, i2⟩, i3, i4⟩ hK
    gi_wp2
    refine hK _ _ ((KeepsOthers.alloc _ _).from _) ((KeepsCells.refl _).alloc _) ⟨⟨cell_alloc i1 _, cell_alloc i2 _⟩, i3.alloc _, grown_tr i4 (World.grownBy_alloc W _ none) (fun r e => by cases e)⟩ ⟨W.heap.size, by simp, rfl⟩
  case body =>
    rintro l pre x a' W hl ⟨r, hr'⟩ ⟨⟨i1, i2⟩, i3, i4⟩ ⟨Bx, j1, rfl⟩ hlt
    obtain ⟨ob, ho1, ho2⟩ := i3.noCells
    by_cases hg : lvl < x.h.level
    · have hc := add_any B (k + pre.length) _ x.y W i3 (by omega) (by have := x.lo; omega) (by have := x.hi; omega)
      have HC := Lib.hid hc; clear hc
      have I3 := Lib.hid i3; clear i3
      have I4 := Lib.hid i4; clear i4
      have HO1 := Lib.hid ho1; clear ho1
      have HR' := Lib.hid hr'; clear hr'
      gi_wp2_with (refine ⟨trivial, ?_⟩; gi_at_call 41; refine (CallsIn.inRound l (callsIn_wide.2 HC.out)).mono ?_; rintro e w' ⟨rfl, hy1, hg1⟩)
      refine ⟨KeepsFrom.of_grownBy hg1 (fun j e => by cases e; omega), (KeepsCells.refl _).grown hg1 HO1.out ho2, ⟨cell_kept i1 hg1 (fun r e => by cases e; exact ⟨_, HO1.out, ho2⟩), cell_kept i2 hg1 (fun r e => by cases e; exact ⟨_, HO1.out, ho2⟩)⟩, hy1.mono (by simp; omega) (fun z => by rw [exS_snoc]; simp [hg, eq_comm]), grown_tr I4.out hg1 (fun r e => by cases e; exact .inl rfl)⟩
    · have I3 := Lib.hid i3; clear i3
      have I4 := Lib.hid i4; clear i4
      gi_wp2
      refine ⟨KeepsFrom.refl _ _, KeepsCells.refl _, ⟨i1, i2⟩, I3.out.mono (by simp) (fun z => by rw [exS_snoc]; simp; omega), I4.out⟩
  case done =>
    rintro D ys W hD hys ⟨⟨i1, i2⟩, i3, i4⟩ hK
    gi_wp2
    refine ⟨by simp, .inl ⟨_, _, rfl, run_takeDeferred hK, ?_⟩⟩
    have hl2 : ys.length ≤ 2 * len := by
      have e := congrArg List.length hys
      rw [List.length_map] at e
      have := yhAll_len f d m hs
      have := hr.1
      omega
    refine ⟨_, results_none rfl _ _ _, rfl, (i3.kept (grownBy_putObj' _ D _) (fun e => by cases e; omega)).mono (by omega) (exS_all hys), grown_tr i4 (grownBy_putObj' _ D _) (fun r e => by cases e; exact .inr (by omega))⟩
  case stop =>
    rintro D c pre W _ _ h _
    exact h.elim
end Go.Proofs.YtjdaigffgfnhaaaGreat
