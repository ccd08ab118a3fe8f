/- The laws' within, without and failed: walks. -/
import Derived.Test.YtadldndpphdmpaaQI
namespace Go.Proofs.Ytadldndpphdmpaa
open Go.RowKit

theorem all_step {α : Type} (q : α → Bool) {l : List α} {k : Nat} {x : α} (h : l[k]? = some x) : (l.take (k + 1)).all q = ((l.take k).all q && q x) := by
  obtain ⟨hk, rfl⟩ := List.getElem?_eq_some_iff.1 h
  rw [List.take_succ_eq_append_getElem hk, List.all_append]
  simp
theorem all_miss {α : Type} (q : α → Bool) {l : List α} {k : Nat} {x : α} (h : l[k]? = some x) (hq : q x = false) : l.all q = false := by
  rw [List.all_eq_false]; exact ⟨x, List.mem_of_getElem? h, by rw [hq]; decide⟩
set_option maxRecDepth 100000 in
set_option maxHeartbeats 2000000 in
theorem lwithin_any (xs ys : List Int) (A : Option Addr) (n c : Nat) (B : Option Addr) (m d : Nat) (w : World) (hx : RdI w A n xs) (hy : RdI w B m ys) (hn : n ≤ 1000000000000000) (hm : m ≤ 1000000000000000) :
    Calls Try.prog 29 #[.slice A n c, .slice B m d] w fun e w' => e = .returned (.bool (xs.all fun x => decide (x ∈ ys))) ∧ Below w.heap.size w w' := by
  have HL := Lib.hid hx.1
  have HX := Lib.hid hx; have HY := Lib.hid hy
  clear hx hy
  go_enter Try.func29, Try.ntmps29
  go_wp2_with fail
  go_loopw [5] (fun i wr => ∃ k : Nat, k ≤ n ∧ i = .int .i64 k ∧ Below w.heap.size w wr ∧ ((xs.take k).all fun x => decide (x ∈ ys)) = true) (fun i _ => n - (intOf i).toNat)
  case atStart => exact ⟨0, Nat.zero_le _, rfl, Below.refl _ _, by simp⟩
  case round =>
    obtain ⟨k, hk, rfl, hB, hE⟩ := hrel
    have HB := Lib.hid hB; have HE := Lib.hid hE
    clear hB hE
    by_cases hlt : k < n
    · obtain ⟨x, ad, hx, rfl, cx⟩ := rdI_get (HX.out.below HB.out) hlt
      have HSt := Lib.hid (all_step (fun x => decide (x ∈ ys)) hx)
      have HMi := Lib.hid (all_miss (fun x => decide (x ∈ ys)) hx)
      have HH := Lib.hid (lhas_any ys x B m d wr (HY.out.below HB.out) hm)
      have hkn : (k : Int) < (n : Int) := by omega
      clear hx
      by_cases hq : x ∈ ys
      · have hd : decide (x ∈ ys) = true := by simpa using hq
        rw [hd] at HH
        have HE2 : Hid ((xs.take (k + 1)).all (fun x => decide (x ∈ ys)) = true) := by have := HSt.out; rw [HE.out, hd] at this; exact this
        clear hq hd HMi
        go_wp2_with fail
        refine HH.out.mono ?_
        rintro e W2 ⟨rfl, hb2⟩
        have HB2 : Hid (Below w.heap.size w W2) := HB.out.trans (hb2.mono HB.out.size)
        clear hb2 cx
        go_wp2_with fail
        go_roundw
        case rel => exact ⟨k + 1, by omega, by go_num, HB2.out, HE2.out⟩
        case measure => simp [intOf]; omega
      · have hd : decide (x ∈ ys) = false := by simpa using hq
        rw [hd] at HH
        have HF : Hid (xs.all (fun x => decide (x ∈ ys)) = false) := HMi.out hd
        clear hq hd HMi
        go_wp2_with fail
        refine HH.out.mono ?_
        rintro e W2 ⟨rfl, hb2⟩
        have HB2 : Hid (Below w.heap.size w W2) := HB.out.trans (hb2.mono HB.out.size)
        clear hb2 cx
        go_wp2_with fail
        go_ret
        exact ⟨ret_bool HF.out.symm, HB2.out⟩
    · obtain rfl : n = k := by omega
      have HF : Hid (xs.all (fun x => decide (x ∈ ys)) = true) := by have := HE.out; rw [List.take_of_length_le (by have := HL.out; omega)] at this; exact this
      go_wp2_with fail
      go_ret
      exact ⟨ret_bool HF.out.symm, HB.out⟩
set_option maxRecDepth 100000 in
set_option maxHeartbeats 4000000 in
theorem lwithout_any (l : List Int) (y : Int) (A : Option Addr) (n c : Nat) (w : World) (hx : RdI w A n l) (hn : n ≤ 1000000) :
    Calls Try.prog 31 #[.slice A n c, .int .i64 y] w (NewInts w (l.filter fun x => x != y)) := by
  have hl := hx.1
  have HX := Lib.hid hx
  have HL := Lib.hid hl
  clear hx hl
  obtain ⟨ii, hii, hzi0, hzi1, hzi2⟩ := info_parts infoI
  go_enter Try.func31, Try.ntmps31
  go_wp2_with fail
  go_loopw [5, 6] (fun v i wr => ∃ k : Nat, k ≤ n ∧ i = .int .i64 k ∧ wr.ownsRow w.heap.size 3 1 v ((l.take k).filter fun x => x != y).length (((l.take k).filter fun x => x != y).map (Value.int .i64)) ∧ Below w.heap.size w wr) (fun _ i _ => n - (intOf i).toNat)
  case atStart => exact ⟨0, Nat.zero_le _, rfl, World.ownsRow_nil _ _ _ _, Below.refl _ _⟩
  case round =>
    obtain ⟨k, hk, rfl, hrw, hB⟩ := hrel
    have HRw := Lib.hid hrw; have HB := Lib.hid hB
    have hBz := hB.size
    have HBz := Lib.hid hBz
    have hfl : ((l.take k).filter fun x => x != y).length ≤ k := Nat.le_trans (List.length_filter_le _ _) (List.length_take_le _ _)
    clear hrw hB
    by_cases hlt : k < n
    · obtain ⟨v, ad, hv, rfl, cv⟩ := rdI_get (HX.out.below HB.out) hlt
      have HSu := Lib.hid (filter_take (fun x => x != y) hv)
      have hkn : (k : Int) < (n : Int) := by omega
      clear hv
      cases hq : (v != y)
      · have HS2 : Hid ((l.take (k + 1)).filter (fun x => x != y) = (l.take k).filter fun x => x != y) := by have := HSu.out; rw [hq, if_neg (by decide), List.append_nil] at this; exact this
        go_wp2_with fail
        go_roundw
        case rel => exact ⟨k + 1, by omega, by go_num, by rw [HS2.out]; exact HRw.out, HB.out⟩
        case measure => simp [intOf]; omega
      · have HS2 : Hid ((l.take (k + 1)).filter (fun x => x != y) = ((l.take k).filter fun x => x != y) ++ [v]) := by have := HSu.out; rw [hq, if_pos rfl] at this; exact this
        go_wp2_with (at_builtin; refine wpList_append_one rfl _ _ 30 rfl w.heap.size 3 ii (.int .i64 0) 8 Try.underlying30 hii hzi0 hzi1 hzi2 rfl _ _ _ rfl HRw.out (.int .i64 v) wr.heap.size rfl rfl (by simp [Value.oneCell']) (by unfold maxLen; omega) (by omega) HBz.out ?_; intro A' c'' w2 hown' hgrow _; have HO2 := Lib.hid hown'; have HG2 := Lib.hid hgrow; clear hown' hgrow)
        go_roundw
        case rel => exact ⟨k + 1, by omega, by go_num, by rw [HS2.out, List.length_append, List.map_append]; exact HO2.out, HB.out.grown HG2.out HBz.out (fun r e => (HRw.out.lt r e).1)⟩
        case measure => simp [intOf]; omega
    · obtain rfl : n = k := by omega
      have HF : Hid (l.take n = l) := List.take_of_length_le (by have := HL.out; omega)
      rw [HF.out] at HRw
      go_wp2_with fail
      go_ret
      exact ⟨_, rfl, HRw.out, HB.out⟩
end Go.Proofs.Ytadldndpphdmpaa
