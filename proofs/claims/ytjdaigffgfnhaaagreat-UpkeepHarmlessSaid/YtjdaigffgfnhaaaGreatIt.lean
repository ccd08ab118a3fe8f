import Derived.Test.YtjdaigffgfnhaaaGreatW2
import Derived.Test.YtjdaigffgfnhaaaGreatPlain2
import Derived.RangeFuncNested
import Derived.RangeFuncBound
import Derived.RangeFuncCalls
import Derived.RangeFuncLeaves
import Derived.Shelf.Abstract
import Derived.OwnWalkIn
import Derived.TacticsInMore
import Derived.LoopNIn
import Derived.LoopIn
import Derived.Maps.OwnIn
namespace Go.Proofs.YtjdaigffgfnhaaaGreat
open Go.RowKit Go.Shelf

attribute [local go_sem] Oper.semAt_some

/-- Whatever is cells lies as it lay. -/
structure KeepsCells (W W' : World) : Prop where
  size : W.heap.size ≤ W'.heap.size
  same : ∀ (k : Nat) (o : Obj), W.heap[k]? = some o → o.isCells = true → W'.heap[k]? = some o

theorem KeepsCells.refl (W : World) : KeepsCells W W := ⟨Nat.le_refl _, fun _ _ h _ => h⟩
theorem KeepsCells.trans {A B C : World} (h : KeepsCells A B) (k : KeepsCells B C) : KeepsCells A C := ⟨Nat.le_trans h.size k.size, fun i o hi ho => k.same i o (h.same i o hi ho) ho⟩
theorem KeepsCells.putObj {W : World} {l : Nat} {o : Obj} (o' : Obj) (hl : W.heap[l]? = some o) (ho : o.isCells = false) : KeepsCells W (W.putObj l o') := by
  have hlt : l < W.heap.size := (Array.getElem?_eq_some_iff.1 hl).1
  refine ⟨by simp [World.putObj], fun k x hk hx => ?_⟩
  by_cases e : l = k
  · subst e; rw [hl] at hk; cases hk; rw [ho] at hx; cases hx
  · rw [World.putObj_heap_other (fun h => e h.symm)]; exact hk
theorem KeepsCells.alloc {A W : World} (h : KeepsCells A W) (o : Obj) : KeepsCells A (W.alloc o) :=
  ⟨Nat.le_trans h.size (by simp), fun k x hk hx => by
    have h1 := h.same k x hk hx
    exact (Below.heap_alloc W o k (Array.getElem?_eq_some_iff.1 h1).1).trans h1⟩
theorem KeepsCells.grown {A W W' : World} {b : Nat} {o : Obj} (h : KeepsCells A W) (hg : W.grownBy W' (some b)) (hb : W.heap[b]? = some o) (ho : o.isCells = false) : KeepsCells A W' :=
  ⟨Nat.le_trans h.size hg.size, fun k x hk hx => by
    have h1 := h.same k x hk hx
    refine (hg.block k (Array.getElem?_eq_some_iff.1 h1).1 (fun e => ?_)).trans h1
    cases e
    rw [hb] at h1; cases h1; rw [ho] at hx; cases hx⟩
theorem KeepsCells.cell {W W' : World} {p : Addr} {v : Value} (h : KeepsCells W W') (hc : W.cell? p = some v) : W'.cell? p = some v := by
  unfold World.cell? at hc ⊢
  cases hb : W.heap[p.block]? with
  | none => rw [hb] at hc; cases hc
  | some o =>
    cases o with
    | cells c t m => rw [hb] at hc; rw [h.same p.block _ hb rfl]; exact hc
    | _ => rw [hb] at hc; cases hc
theorem KeepsCells.rd {α : Type} {enc : α → List Value} {k : Nat} {w w' : World} {A : Option Addr} {n : Nat} {xs : List α} (hb : KeepsCells w w') (h : Rd enc k w A n xs) : Rd enc k w' A n xs :=
  ⟨h.1, fun i x hx => by
    obtain ⟨ad, e, ha⟩ := h.2 i x hx
    exact ⟨ad, e, fun j v hj => hb.cell (ha j v hj)⟩⟩

/-- What the iterator yields: a year and a high. -/
structure Yh where
  y : Int
  h : High
  lo : 0 ≤ y
  hi : y ≤ 20000
abbrev Yh.encs (x : Yh) : Array Value := #[.int .i64 x.y, .agg #[.int .i64 x.h.year, .int .i64 x.h.day, .int .i64 x.h.level]]

def yhIn (f d n : Int) (h : High) (y : Int) : Bool := decide (f ≤ y) && !outB (h.day + (h.year - y) * 365 - d) 0 (n - 1)
/-- The first j years that are tried for a high, those that are yielded. -/
def yhL (f d n : Int) (h : High) (j : Nat) : List (Int × High) := (([h.year - 1, h.year].take j).filter (yhIn f d n h)).map (fun y => (y, h))
def yhAll (f d n : Int) (hs : List High) : List (Int × High) := hs.flatMap fun h => yhL f d n h 2

theorem yhL_len (f d n : Int) (h : High) (j : Nat) : (yhL f d n h j).length ≤ j := by
  unfold yhL
  rw [List.length_map]
  refine Nat.le_trans (List.length_filter_le _ _) (List.length_take_le _ _)
theorem yhAll_len (f d n : Int) (hs : List High) : (yhAll f d n hs).length ≤ 2 * hs.length := by
  unfold yhAll
  induction hs with
  | nil => simp
  | cons h t ih => simp only [List.flatMap_cons, List.length_append, List.length_cons]; have := yhL_len f d n h 2; omega
theorem yhAll_take (f d n : Int) (hs : List High) (k : Nat) (h : High) (hk : hs[k]? = some h) : yhAll f d n (hs.take (k + 1)) = yhAll f d n (hs.take k) ++ yhL f d n h 2 := by
  unfold yhAll
  have hl : k < hs.length := (List.getElem?_eq_some_iff.1 hk).1
  have e : hs[k] = h := (List.getElem?_eq_some_iff.1 hk).2
  rw [List.take_succ_eq_append_getElem hl, List.flatMap_append, e]
  simp
/-- The year that is tried in round j. -/
def yAt (h : High) (j : Nat) : Int := if j = 0 then h.year - 1 else h.year
theorem yhL_succ (f d n : Int) (h : High) (j : Nat) (hj : j < 2) : yhL f d n h (j + 1) = yhL f d n h j ++ (if yhIn f d n h (yAt h j) then [(yAt h j, h)] else []) := by
  rcases (by omega : j = 0 ∨ j = 1) with rfl | rfl
  · unfold yhL yAt; by_cases c : yhIn f d n h (h.year - 1) = true <;> simp [c]
  · unfold yhL yAt; by_cases c : yhIn f d n h (h.year - 1) = true <;> by_cases c' : yhIn f d n h h.year = true <;> simp [c, c']

theorem index2 (x y : Value) (j : Nat) (hj : j < 2) (w : World) : (Instr.index 165 (.agg #[x, y]) (.int .i64 (j : Int))).run Tryz.prog w = .ok (if j = 0 then x else y) w := by
  rcases (by omega : j = 0 ∨ j = 1) with rfl | rfl <;> kernel_rfl


set_option maxRecDepth 100000 in
set_option maxHeartbeats 2000000 in
/-- The iterator of the highs of a window: for every loop body that keeps the cells. -/
theorem highs1_in (F : Fence) (n : Nat) (hF : F = Fence.wide) (hn : 1 ≤ n) (l Br Bw : Nat) (f d m : Int) (A : Option Addr) (len c : Nat) (hs : List High) (J Jx : List Yh → World → Prop) (W : World)
    (hY : ∀ pre x W1, J pre W1 → pre.length < 2 * len → YieldAt F (n - 1) Tryz.prog l (Yh.encs x) W1 fun e W' =>
      (e = .returned (.bool true) ∧ J (pre ++ [x]) W' ∧ KeepsCells W1 W') ∨ (e = .returned (.bool false) ∧ Jx (pre ++ [x]) W'))
    (hJ : AbidesFrom W.heap.size J)
    (r0 : W.cell? ⟨Br, 0, none⟩ = some (.int .i64 f)) (r2 : W.cell? ⟨Br, 2, none⟩ = some (.slice A len c)) (w0 : W.cell? ⟨Bw, 0, none⟩ = some (.int .i64 d)) (w1 : W.cell? ⟨Bw, 1, none⟩ = some (.int .i64 m))
    (hr : RdH W A len hs) (hlen : len ≤ 300) (hok : RowsOK f hs) (f0 : 0 ≤ f) (f1 : f ≤ 9999) (d0 : 0 ≤ d) (d1 : d ≤ 364) (m0 : 1 ≤ m) (m1 : m ≤ 365) (h0 : J [] W) :
    CallsIn F n Tryz.prog 77 #[.func (.yield l) #[] #[], .pointer (some ⟨Br, 0, none⟩), .pointer (some ⟨Bw, 0, none⟩)] W fun e W' => (∃ v, e = .returned v) ∧
      ((∃ ys, ys.map (fun x : Yh => (x.y, x.h)) = yhAll f d m hs ∧ J ys W') ∨ (∃ pre, True ∧ Jx pre W')) := by
  subst hF
  refine callsIn_of_wp Tryz.func77 rfl trivial ?_ rfl
  simp only [Tryz.ntmps77, List.size_toArray, List.length_cons, List.length_nil, Nat.reduceAdd, Nat.reduceSub, Array.replicate_succ, Array.replicate_zero, List.push_toArray, List.append_toArray, List.nil_append, List.cons_append]
  have HR := Lib.hid hr; clear hr
  have HOK := Lib.hid hok; clear hok
  have HJ := Lib.hid hJ; clear hJ
  have HY := Lib.hid hY; clear hY
  have H0 := Lib.hid h0; clear h0
  gi_wp2
  gi_loopw [12] (fun i wr => ∃ (k : Nat) (pre : List Yh), k ≤ len ∧ i = .int .i64 k ∧ pre.map (fun x : Yh => (x.y, x.h)) = yhAll f d m (hs.take k) ∧ KeepsCells W wr ∧ J pre wr) (fun i _ => len - (intOf i).toNat)
  case atStart => exact ⟨0, [], Nat.zero_le _, rfl, by simp [yhAll], KeepsCells.refl _, H0.out⟩
  case round =>
    obtain ⟨k, pre, hk, rfl, hpre, hK, hJr⟩ := hrel
    have HP := Lib.hid hpre; clear hpre
    have HK := Lib.hid hK
    have HJr := Lib.hid hJr; clear hJr
    by_cases hlt : k < len
    · have hr2 := hK.rd HR.out
      obtain ⟨h, ad, hh, rfl, ha⟩ := hr2.get hlt
      obtain ⟨c0, c1, c2⟩ := ha.three
      have ok := HOK.out k h hh
      obtain ⟨o1, o2, o3, o4, o5, o6⟩ := ok
      have HH := Lib.hid hh; clear hh
      clear hr2 ha hK
      have k0 := HK.out.cell r0
      have k2 := HK.out.cell r2
      gi_wp2
      clear k0 k2
      obtain ⟨wo, rfl⟩ : ∃ wo : World, wo = wr := ⟨_, rfl⟩
      obtain ⟨W1, hW1⟩ : ∃ W1, wo.alloc (.cells #[.int .i64 h.year, .int .i64 h.day, .int .i64 h.level] 44) = W1 := ⟨_, rfl⟩
      have hb0 : W1.cell? ⟨wo.heap.size, 0, none⟩ = some (.int .i64 h.year) := by rw [← hW1]; simp
      have hb1 : W1.cell? ⟨wo.heap.size, 1, none⟩ = some (.int .i64 h.day) := by rw [← hW1]; simp
      have hb2 : W1.cell? ⟨wo.heap.size, 2, none⟩ = some (.int .i64 h.level) := by rw [← hW1]; simp
      have HK1 : Hid (KeepsCells W W1) := by rw [← hW1]; exact HK.out.alloc _
      have HJ1 : Hid (J pre W1) := by rw [← hW1]; exact HJ.out _ _ _ none HJr.out (World.grownBy_alloc wo _ none) (fun r e => by cases e)
      rw [hW1]
      clear hW1 HJr c0 c1 c2
      have hB0 := Lib.hid hb0; clear hb0
      have hB1 := Lib.hid hb1; clear hb1
      have hB2 := Lib.hid hb2; clear hb2
      gi_loopw [22] (fun i wi => ∃ (j : Nat) (prj : List Yh), j ≤ 2 ∧ i = .int .i64 j ∧ prj.map (fun x : Yh => (x.y, x.h)) = yhAll f d m (hs.take k) ++ yhL f d m h j ∧ KeepsCells W1 wi ∧ J prj wi) (fun i _ => 2 - (intOf i).toNat)
      case atStart => exact ⟨0, pre, by omega, rfl, by rw [HP.out]; simp [yhL], KeepsCells.refl _, HJ1.out⟩
      case round =>
        obtain ⟨j, prj, hj, rfl, hpj, hKj, hJj⟩ := hrel
        have HPj := Lib.hid hpj; clear hpj
        have HJj := Lib.hid hJj; clear hJj
        have HKj := Lib.hid hKj; clear hKj
        by_cases hj2 : j < 2
        · have e0 := HKj.out.cell hB0.out
          have e1 := HKj.out.cell hB1.out
          have e2 := HKj.out.cell hB2.out
          have hx := index2 (.int .i64 (h.year - 1)) (.int .i64 h.year) j hj2
          have hyy : (if j = 0 then (Value.int .i64 (h.year - 1)) else .int .i64 h.year) = .int .i64 (yAt h j) := by unfold yAt; split <;> rfl
          rw [hyy] at hx
          clear hyy
          have hyb : h.year - 1 ≤ yAt h j ∧ yAt h j ≤ h.year := by unfold yAt; split <;> omega
          obtain ⟨hyb1, hyb2⟩ := hyb
          generalize hyj : yAt h j = yj at *
          have HYJ := Lib.hid hyj; clear hyj
          have k0 := (HK1.out.trans HKj.out).cell r0
          have k3 := (HK1.out.trans HKj.out).cell w0
          have k4 := (HK1.out.trans HKj.out).cell w1
          have HS := yhL_succ f d m h j hj2
          rw [HYJ.out] at HS
          by_cases q1 : f ≤ yj
          · have q1' : decide (f ≤ yj) = true := by simpa using q1
            by_cases q2 : outB (h.day + (h.year - yj) * 365 - d) 0 (m - 1) = true
            · have HS2 : Hid (yhL f d m h (j + 1) = yhL f d m h j) := by rw [HS]; simp [yhIn, q1', q2, Hid]
              clear HS
              gi_wp2_with (refine ⟨trivial, ?_⟩; gi_at_call 37; refine (callsIn_wide.2 (out_any _ _ _ _)).mono ?_; rintro e w' ⟨rfl, rfl⟩)
              refine ⟨fun _ h => (by cases h), ?_⟩
              gi_wp2
              go_roundw
              case rel => exact ⟨j + 1, prj, by omega, by go_num, by rw [HS2.out]; exact HPj.out, HKj.out, HJj.out⟩
              case measure => simp [intOf]; omega
            · have q2' : outB (h.day + (h.year - yj) * 365 - d) 0 (m - 1) = false := by simpa using q2
              have HS2 : Hid (yhL f d m h (j + 1) = yhL f d m h j ++ [(yj, h)]) := by rw [HS]; simp [yhIn, q1', q2', Hid]
              clear HS
              have hlen2 : prj.length < 2 * len := by
                have e := congrArg List.length HPj.out
                rw [List.length_map, List.length_append] at e
                have a1 := yhAll_len f d m (hs.take k)
                have a2 := yhL_len f d m h j
                have a3 := List.length_take_le k hs
                omega
              obtain ⟨fn, tmps, assign, body, hy, hR⟩ := HY.out prj ⟨yj, h, by omega, by omega⟩ wr HJj.out hlen2
              dsimp only [Yh.encs] at hy
              have HRR := Lib.hid hR; clear hR
              gi_wp2_with (refine ⟨trivial, ?_⟩; gi_at_call 37; refine (callsIn_wide.2 (out_any _ _ _ _)).mono ?_; rintro e w' ⟨rfl, rfl⟩)
              refine HRR.out.mono ?_
              rintro e W3 (⟨rfl, hJ3, hk3⟩ | ⟨rfl, hJx3⟩)
              · have HJ3 := Lib.hid hJ3; clear hJ3
                have HK3 := Lib.hid hk3; clear hk3
                gi_wp2
                go_roundw
                case rel => exact ⟨j + 1, _, by omega, by go_num, by rw [HS2.out, List.map_append, HPj.out, List.append_assoc]; rfl, HKj.out.trans HK3.out, HJ3.out⟩
                case measure => simp [intOf]; omega
              · have HJ3 := Lib.hid hJx3; clear hJx3
                gi_wp2
                refine bodyPost_ret (results_none rfl _ _ _) rfl ?_
                exact ⟨⟨_, rfl⟩, .inr ⟨_, trivial, HJ3.out⟩⟩
          · have q1' : decide (f ≤ yj) = false := by simpa using q1
            have HS2 : Hid (yhL f d m h (j + 1) = yhL f d m h j) := by rw [HS]; simp [yhIn, q1', Hid]
            clear HS
            gi_wp2
            refine ⟨trivial, ?_⟩
            gi_wp2
            refine ⟨fun _ h => (by cases h), ?_⟩
            gi_wp2
            go_roundw
            case rel => exact ⟨j + 1, prj, by omega, by go_num, by rw [HS2.out]; exact HPj.out, HKj.out, HJj.out⟩
            case measure => simp [intOf]; omega
        · gi_wp2
          go_roundw
          case rel =>
            obtain rfl : j = 2 := by omega
            exact ⟨k + 1, prj, by omega, by go_num, by rw [HPj.out, yhAll_take f d m hs k h HH.out], HK1.out.trans HKj.out, HJj.out⟩
          case measure => simp [intOf]; omega
    · gi_wp2
      go_end0
      refine ⟨⟨_, rfl⟩, .inl ⟨pre, ?_, HJr.out⟩⟩
      rw [HP.out, List.take_of_length_le (by have := HR.out.1; omega)]

end Go.Proofs.YtjdaigffgfnhaaaGreat
