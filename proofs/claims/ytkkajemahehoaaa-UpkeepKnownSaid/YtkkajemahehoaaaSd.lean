/- A row of numbers of the call's own, sorted from the greatest on: slices.SortFunc by its contract. -/
import Derived.Test.YtkkajemahehoaaaShelf2
import Derived.Test.YtkkajemahehoaaaOwn
import Derived.Test.YtkkajemahehoaaaLi
import Derived.Sort.OwnSortedInts
namespace Go.Proofs.Ytkkajemahehoaaa
open Go.Shelf Go.RowKit Go.Lib Go.Sort

/-- The comparison: cmp.Compare(b, a). -/
def cfD (x y : Int) : Int := Lib.compareInt y x
theorem ltD (x y : Int) : ltOf cfD x y = decide (y < x) := by
  unfold ltOf cfD Lib.compareInt
  by_cases h1 : y < x
  · simp [h1]
  · by_cases h2 : x < y <;> simp [h1, h2]
theorem swoD : SWO (ltOf cfD) where
  irrefl x := by rw [ltD]; simp
  trans x y z h1 h2 := by rw [ltD] at *; simp at *; omega
  ntrans x y z h1 h2 := by rw [ltD] at *; simp at *; omega
theorem totD (x y : Int) (h1 : ltOf cfD x y = false) (h2 : ltOf cfD y x = false) : x = y := by rw [ltD] at *; simp at *; omega
theorem geD : (fun x y : Int => !ltOf cfD y x) = fun x y => decide (y ≤ x) := by
  funext x y
  rw [ltD]
  by_cases h : y ≤ x
  · have h' : ¬ x < y := by omega
    simp [h, h']
  · have h' : x < y := by omega
    simp [h, h']

set_option maxHeartbeats 1000000 in
theorem closure91 (x y : Int) (W : World) : Calls Try.prog 91 #[.int .i64 x, .int .i64 y] W fun e w' => e = .returned (.int .i64 (cfD x y)) ∧ ∃ q, w' = W.drewN q := by
  have hcon := Try.cmp_Compare_int y x W
  unfold cfD
  generalize Lib.compareInt y x = r at hcon ⊢
  go_enter Try.func91, Try.ntmps91
  go_wp2_with (go_at_call 92; refine hcon.mono ?_; rintro e w' ⟨rfl, rfl⟩)
  go_ret
  exact ⟨rfl, 0, rfl⟩
theorem cmpReads91 (blk off size : Nat) (w : World) : CmpReads Try.prog 91 #[] (Value.int .i64) cfD blk off size w := fun _ _ _ _ x y => closure91 x y _

/-- The numbers of a list from the greatest on. -/
def descL (l : List Int) : List Int := l.mergeSort fun x y => decide (y ≤ x)
theorem descL_perm (l : List Int) : (descL l).Perm l := List.mergeSort_perm l _
theorem descL_sorted (l : List Int) : (descL l).Pairwise (fun x y => y ≤ x) := by
  have h := List.pairwise_mergeSort (le := fun x y : Int => decide (y ≤ x)) (fun a b c h1 h2 => by simp at *; omega) (fun a b => by simp; omega) l
  exact h.imp fun h => by simpa using h
theorem descL_len (l : List Int) : (descL l).length = l.length := (descL_perm l).length_eq

theorem descL_nil : descL [] = [] := by simp [descL]

theorem sortDesc_any {w : World} {base n : Nat} {v : Value} {xs : List Int} (h : w.ownsRow base 3 1 v n (xs.map (Value.int .i64))) (hl : xs.length = n) (hn : n ≤ 1000000) :
    Calls Try.prog 90 #[v, .func (.func 91) #[] #[]] w fun e w' => e = .returned (.tuple #[]) ∧ w'.ownsRow base 3 1 v n ((descL xs).map (Value.int .i64)) ∧ w.grownBy w' v.ownBlock := by
  rcases Nat.eq_zero_or_pos n with rfl | hp
  · have hx : xs = [] := List.length_eq_zero_iff.1 hl
    subst hx
    obtain ⟨A, c, rfl, _, _, _⟩ := rdI_of_own h rfl
    have hS := AnyF.slices_SortFunc_none (P := Try.prog) (ρ := Try.sortF_ren) { Try.sortF with } A c (.func (.func 91) #[] #[]) w
    exact Calls.mono hS fun e w' ⟨h1, h2⟩ => ⟨h1, by subst h2; rw [descL_nil]; exact h, by subst h2; exact ⟨rfl, rfl, rfl, Nat.le_refl _, fun _ _ _ => rfl⟩⟩
  · rcases h.2 with ⟨_, h0⟩ | ⟨g, cap, cur, rfl, hbase, hb, h1, h2, h3, h4⟩
    · omega
    · have h4' : cur.toList.take xs.length = xs.map (Value.int .i64) := by rw [hl]; simpa using h4
      have hH : Holds (Value.int .i64) w g 0 xs.toArray := holds_of_blockI hb h4'
      have eg : ∀ args w, (callFunc 91 args).run Try.prog w = .ok (.enter 91 args) w := enters_of Try.func91 (by kernel_rfl) rfl
      have hsz : xs.toArray.size = n := by simpa using hl
      have hS := Any.slices_SortFunc_total Try.sortF (Value.int .i64) (fun _ => rfl) cfD swoD 91 #[] g 0 cap xs.toArray w eg (cmpReads91 g 0 xs.toArray.size w).lays hH (Array.getElem?_eq_some_iff.1 hb).1 (by omega) totD
      rw [geD, hsz] at hS
      refine Calls.mono hS fun e w' ⟨he, nn, os, hw⟩ => ⟨he, ?_, ?_⟩
      · have := ownsRow_sortedI (w := w) (n := nn) (os := os) (ts := descL xs) (ss := xs) (descL_len xs) hbase hb (by omega) h2 (by simpa using h3)
        rw [hl] at this
        rw [hw]
        exact this
      · rw [hw]
        exact grownBy_sortedI _
end Go.Proofs.Ytkkajemahehoaaa
