import Derived.Test.YtjdaigffgfnhaaaGreatEx
import Derived.Test.YtjdaigffgfnhaaaGreatShelf
import Derived.Maps.RangeWalk
import Derived.Maps.OwnSet
import Derived.Sort.OwnSortedInts
import Derived.Sort.OwnSorted
namespace Go.Proofs.YtjdaigffgfnhaaaGreat
open Go.RowKit Go.Shelf

theorem info3 : (Tryz.prog.info? 3).map (fun i => (i.zero, i.size, i.bytes)) = some (some (.int .i64 0), 1, 8) := by kernel_rfl

/-- What list returns: the years of the set up to a last one, ascending. -/
def ListPost (w : World) (S : Int → Prop) (last : Int) (k : Nat) (e : Ending) (w' : World) : Prop :=
  ∃ (l : List Int) (A : Option Addr) (c : Nat), e = .returned (.slice A l.length c) ∧ l.Pairwise (· < ·) ∧ (∀ y, y ∈ l ↔ S y ∧ y ≤ last) ∧ w'.ownsRow w.heap.size 3 1 (.slice A l.length c) l.length (l.map (Value.int .i64)) ∧ l.length ≤ k ∧ Below w.heap.size w w'

/-- What has been collected. -/
def Coll (D : DataW Unit) (left : Lit → Bool) (last : Int) (ls : List Int) : Prop :=
  ls.Nodup ∧ ∀ y : Int, y ∈ ls ↔ Maps.has D (.int .i64 y) = true ∧ left (.int .i64 y) = false ∧ y ≤ last

theorem same_int (x y : Int) : (Lit.int .i64 y).sameKey (.int .i64 x) = decide (y = x) := by
  by_cases h : y = x
  · subst h; rw [WideAt.sameKey_self (show WideAt.IsKeyLit (Lit.int .i64 y) from True.intro)]; simp
  · simp only [h, decide_false]
    cases hs : (Lit.int .i64 y).sameKey (.int .i64 x) with
    | false => rfl
    | true => have := WideAt.sameKey_eq hs; cases this; exact absurd rfl h

theorem Coll.keep {D : DataW Unit} {left : Lit → Bool} {last : Int} {ls : List Int} {x : Int} (h : Coll D left last ls) (hl : left (.int .i64 x) = true) (hh : Maps.has D (.int .i64 x) = true) (hx : x ≤ last) :
    Coll D (fun z => left z && !z.sameKey (.int .i64 x)) last (ls ++ [x]) := by
  refine ⟨?_, fun y => ?_⟩
  · rw [List.nodup_append]
    refine ⟨h.1, by simp, ?_⟩
    intro a ha b hb e
    simp at hb
    subst hb e
    have := (h.2 a).1 ha
    rw [hl] at this
    exact absurd this.2.1 (by simp)
  · dsimp only
    rw [List.mem_append, h.2 y, same_int]
    by_cases e : y = x
    · subst e; simp [hl, hh, hx]
    · simp [e]
theorem Coll.drop {D : DataW Unit} {left : Lit → Bool} {last : Int} {ls : List Int} {x : Int} (h : Coll D left last ls) (hl : left (.int .i64 x) = true) (hx : ¬ x ≤ last) :
    Coll D (fun z => left z && !z.sameKey (.int .i64 x)) last ls := by
  refine ⟨h.1, fun y => ?_⟩
  dsimp only
  rw [h.2 y, same_int]
  by_cases e : y = x
  · subst e; simp [hx]
  · simp [e]

set_option maxHeartbeats 2000000 in
theorem list_any (B k : Nat) (S : Int → Prop) (last : Int) (w : World) (h : Yset w B k S) (hk : k < 100000) :
    Calls Tryz.prog 44 #[.map (some B), .int .i64 last] w (ListPost w S last k) := by
  obtain ⟨D, h1, h3, h2⟩ := h
  have HS := Lib.hid h2; clear h2
  have HM := Lib.hid h3; clear h3
  have hsz := h1.size_le
  have hlt := h1.lt
  obtain ⟨i0, hi, hz0, hz1, hz2⟩ := info_parts info3
  go_enter Tryz.func44, Tryz.ntmps44
  go_wp2_with (at_range; refine wpList_range_own _ rfl _ 112 rfl 3 4 (Maps.int_keyed Tryz.underlying3) Tryz.underlying112 _ B k D rfl h1 ?_; intro w0 hrg0 hg0 hs0)
  go_frame
  go_loopw [4] (fun v wr => ∃ left cnt ls, wr.ranges Tryz.prog 3 (plainElem Tryz.prog 4) B w.heap.size k D left cnt ∧ wr.ownsRow w.heap.size 3 1 v ls.length (ls.map (Value.int .i64)) ∧ Coll D left last ls ∧ ls.length + cnt ≤ k ∧ Below w.heap.size w wr) (fun _ wr => wr.rangeLeft B w.heap.size)
  case atStart => exact ⟨_, _, [], hrg0, World.ownsRow_nil _ _ _ _, ⟨List.nodup_nil, fun y => by simp; intro a b; rw [a] at b; cases b⟩, by simpa using hsz, (Below.refl _ _).grown hg0 (Nat.le_refl _) (fun k e => by cases e)⟩
  case round =>
    obtain ⟨left, cnt, ls, hrg, hrow, hC, hlen, hB⟩ := hrel
    have HC := Lib.hid hC; clear hC
    have HB := Lib.hid hB; clear hB
    clear hrg0 hg0 hs0
    go_wp2_with (first | (at_next; refine wpList_next_ranges _ rfl _ rfl 3 (Maps.int_keyed Tryz.underlying3) (plainElem Tryz.prog 4) (Value.int .i64) (fun v : Value => v) (fun key kl hkey => by obtain ⟨x, rfl, _⟩ := Maps.keyOf_int_inv Tryz.underlying3 hkey; exact ⟨x, rfl⟩) (fun v y hv => ⟨v, rfl⟩) B w.heap.size k _ _ _ rfl hrg ?_ ?_))
    · intro hc0 hl0
      have hmem : ∀ y, y ∈ ls ↔ S y ∧ y ≤ last := fun y => by rw [HC.out.2 y, HS.out y]; simp [hl0]
      have hnd := HC.out.1
      have HMem := Lib.hid hmem; clear hmem
      have HNd := Lib.hid hnd; clear hnd
      clear hl0 hc0 hrg HC
      rcases hrow.2 with ⟨rfl, hn0⟩ | ⟨g, cap, cur, hv, hbase, hb, g1, g2, g3, g4⟩
      · have hls : ls = [] := List.length_eq_zero_iff.1 hn0
        subst hls
        clear hn0
        go_wp2_with (go_at_call 66; refine (Tryz.slices_Sort_int_none _ _ _).mono ?_; rintro e w' ⟨rfl, rfl⟩)
        go_ret
        exact ⟨[], none, 0, rfl, List.Pairwise.nil, HMem.out, World.ownsRow_nil _ _ _ _, Nat.zero_le _, HB.out⟩
      · rw [hv]
        have hH := holds_of_blockI hb (by simpa using g4)
        have hc := Tryz.slices_Sort_int g 0 cap ls wr hH (Array.getElem?_eq_some_iff.1 hb).1 (by omega)
        have HH := Lib.hid hH; clear hH
        have HCc := Lib.hid hc; clear hc
        have HBb := Lib.hid hb; clear hb
        have G3 := Lib.hid g3; clear g3
        have G4 := Lib.hid g4; clear g4
        clear hv hrow
        go_wp2_with (go_at_call 66; refine HCc.out.mono ?_; rintro e w' ⟨rfl, nn, os, rfl⟩)
        go_ret
        have hl : (ls.mergeSort fun x y => decide (x ≤ y)).length = ls.length := List.length_mergeSort ls
        have hown := ownsRow_sortedI (w := wr) (n := nn) (os := os) (ts := ls.mergeSort fun x y => decide (x ≤ y)) (ss := ls) hl hbase HBb.out g1 g2 G3.out
        refine ⟨ls.mergeSort fun x y => decide (x ≤ y), some ⟨g, 0, none⟩, cap, by rw [hl]; rfl, ?_, fun y => by rw [List.mem_mergeSort]; exact HMem.out y, by rw [hl]; exact hown, by rw [hl]; omega, HB.out.grown (grownBy_sortedI _) HB.out.size (fun j e => by cases e; exact hbase)⟩
        have hs := List.pairwise_mergeSort (le := fun x y : Int => decide (x ≤ y)) (fun a b c h1 h2 => by simp at *; omega) (fun a b => by simp; omega) ls
        have hd : (ls.mergeSort fun x y => decide (x ≤ y)).Nodup := (List.mergeSort_perm ls _).nodup_iff.2 HNd.out
        refine (List.Pairwise.and hs hd).imp ?_
        rintro a b ⟨h1, h2⟩
        simp at h1
        omega
    · intro x c kl yd yp w1 cnt1 hkey hlk hv hat hrg1 hlt1 hg1 hs1 hen
      obtain ⟨x', ex, rfl, hwx⟩ := Maps.keyOf_int_inv Tryz.underlying3 hkey
      cases ex
      have hhas := Maps.has_true_of_atKey hat
      have hne := row_ne_iter hrow hrg
      have hlow := row_ne_low hrow hlt
      have hrow1 := hrow.kept hg1 (.inr (Ne.symm hne))
      have HB1 : Hid (Below w.heap.size w w1) := HB.out.grown hg1 HB.out.size (fun j e => by cases e; exact Nat.le_refl _)
      have HL := Lib.hid hlk; clear hlk
      have HHs := Lib.hid hhas; clear hhas
      have hsz1 := HB1.out.size
      have HNe := Lib.hid hne; clear hne
      have HLow := Lib.hid hlow; clear hlow
      clear hat hkey hv hs1 hg1 hrow
      by_cases hx : x ≤ last
      · have hC1 := Lib.hid (HC.out.keep HL.out HHs.out hx)
        go_wp2_with (at_builtin; refine wpList_append_own _ rfl _ _ 31 rfl w.heap.size 3 i0 (.int .i64 0) 1 8 Tryz.underlying31 hi hz0 hz1 hz2 rfl (by decide) _ _ _ rfl (hrow1.alloc _) ⟨w1.heap.size, 0, none⟩ 1 1 [.int .i64 x] rfl rfl (cell_one_new _ _ _) (by simp [Value.oneCell']) (by unfold maxLen; omega) (by omega) (by simp; omega) ?_; intro v' w2 hown' hgrow _)
        go_roundw
        case rel => exact ⟨_, cnt1, ls ++ [x], (hrg1.alloc _).kept hgrow HLow.out HNe.out, by rw [List.length_append, List.map_append]; exact hown', hC1.out, by simp; omega, (HB1.out.alloc HB1.out.size _).grown hgrow (by simp; omega) (fun j e => (hrow1.lt j e).1)⟩
        case measure => rw [((hrg1.alloc _).kept hgrow HLow.out HNe.out).left_eq, hrg.left_eq]; exact hlt1
      · have hC1 := Lib.hid (HC.out.drop HL.out hx)
        go_wp2
        go_roundw
        case rel => exact ⟨_, cnt1, ls, hrg1, hrow1, hC1.out, by omega, HB1.out⟩
        case measure => rw [hrg1.left_eq, hrg.left_eq]; exact hlt1
end Go.Proofs.YtjdaigffgfnhaaaGreat
