/- The document: basics, holds, without, so, effects, the error of a set: walks. -/
import Derived.Test.YtadldndpphdmpaaGreatG2
import Derived.Test.YtadldndpphdmpaaGreatQC
import Derived.Test.YtadldndpphdmpaaGreatQB
import Derived.Test.YtadldndpphdmpaaGreatQA
namespace Go.Proofs.YtadldndpphdmpaaGreat
open Go.RowKit

def basK (t : List Nd) (k : Nat) : List Int := ((List.range k).filter (isBas t)).map Int.ofNat
theorem basK_succ (t : List Nd) (k : Nat) : basK t (k + 1) = basK t k ++ if isBas t k = true then [(k : Int)] else [] := by
  unfold basK
  rw [List.range_succ, List.filter_append, List.map_append]
  congr 1
  by_cases h : isBas t k = true
  · rw [List.filter_cons_of_pos h, if_pos h]; rfl
  · rw [List.filter_cons_of_neg h, if_neg h]; rfl
theorem basK_len (t : List Nd) (k : Nat) : (basK t k).length ≤ k := by
  unfold basK
  rw [List.length_map]
  exact Nat.le_trans (List.length_filter_le _ _) (by simp)
set_option maxRecDepth 100000 in
set_option maxHeartbeats 4000000 in
theorem basics_any (t : List Nd) (A : Option Addr) (n c : Nat) (ms : List NdM) (w : World) (hT : TrM w t A n ms) (hn : n ≤ 1000000) :
    Calls Tryz.prog 30 #[.agg #[.slice A n c]] w (NewInts w (basL t)) := by
  have hF : basL t = basK t n := by rw [← hT.len]; rfl
  have HF := Lib.hid hF
  generalize basL t = BL at *
  obtain ⟨W1, hW1⟩ : ∃ W1, w.alloc (.cells #[.slice A n c] 24) = W1 := ⟨_, rfl⟩
  have HB1 : Hid (Below w.heap.size w W1) := by rw [← hW1]; exact (Below.refl _ w).alloc (Nat.le_refl _) _
  have K1 : Hid (Blk W1 w.heap.size 24 #[.slice A n c]) := by rw [← hW1]; exact Blk.new w _ _ rfl
  have HT := Lib.hid (hT.below HB1.out)
  have HW1 := Lib.hid hW1
  clear hW1 hT hF
  obtain ⟨ii, hii, hzi0, hzi1, hzi2⟩ := info_parts infoI
  go_enter Tryz.func30, Tryz.ntmps30
  go_wp2_with fail
  rw [HW1.out]
  go_loopw [3, 4] (fun v i wr => ∃ k : Nat, k ≤ n ∧ i = .int .i64 k ∧ wr.ownsRow W1.heap.size 3 1 v (basK t k).length ((basK t k).map (Value.int .i64)) ∧ Below W1.heap.size W1 wr) (fun _ i _ => n - (intOf i).toNat)
  case atStart => exact ⟨0, Nat.zero_le _, rfl, World.ownsRow_nil _ _ _ _, Below.refl _ _⟩
  case round =>
    obtain ⟨k, hk, rfl, hrw, hB⟩ := hrel
    have HRw := Lib.hid hrw; have HB := Lib.hid hB
    have K := K1.out.later hB
    have k0 := K.cell (i := 0) rfl
    have kz := K.lt
    have hBz := hB.size
    have HBz := Lib.hid hBz
    have hbl := basK_len t k
    clear hrw hB K
    by_cases hlt : k < n
    · obtain ⟨m, ad, hm, hA, ha, _⟩ := (HT.out.below HB.out).get hlt
      subst hA
      have hbk := isBas_kind hm
      have hsu := basK_succ t k
      rw [hbk] at hsu
      have HSu := Lib.hid hsu
      obtain ⟨c0, c1, c2, c3, c4⟩ := ha.five
      have hkn : (k : Int) < (n : Int) := by omega
      clear hm ha hbk hsu c0 c2 c3 c4
      obtain ⟨⟨na, ki, li, cn, ho⟩, A2, c2'⟩ := m
      dsimp only at *
      cases hq : (ki == 1)
      · have HS2 : Hid (basK t (k + 1) = basK t k) := by have := HSu.out; rw [hq, if_neg (by decide), List.append_nil] at this; exact this
        go_wp2_with fail
        go_roundw
        case rel => exact ⟨k + 1, by omega, by go_num, by rw [HS2.out]; exact HRw.out, HB.out⟩
        case measure => simp [intOf]; omega
      · have HS2 : Hid (basK t (k + 1) = basK t k ++ [(k : Int)]) := by have := HSu.out; rw [hq, if_pos rfl] at this; exact this
        go_wp2_with (at_builtin; refine wpList_append_one rfl _ _ 38 rfl W1.heap.size 3 ii (.int .i64 0) 8 Tryz.underlying38 hii hzi0 hzi1 hzi2 rfl _ _ _ rfl HRw.out (.int .i64 (k : Int)) wr.heap.size rfl rfl (by simp [Value.oneCell']) (by unfold maxLen; omega) (by omega) HBz.out ?_; intro A' c'' w2 hown' hgrow _; have HO2 := Lib.hid hown'; have HG2 := Lib.hid hgrow; clear hown' hgrow)
        go_roundw
        case rel => exact ⟨k + 1, by omega, by go_num, by rw [HS2.out, List.length_append, List.map_append]; exact HO2.out, HB.out.grown HG2.out HBz.out (fun r e => (HRw.out.lt r e).1)⟩
        case measure => simp [intOf]; omega
    · obtain rfl : n = k := by omega
      go_wp2_with fail
      go_ret
      exact ⟨_, rfl, by rw [HF.out]; exact own_lower HRw.out HB1.out.size, HB1.out.trans (HB.out.mono HB1.out.size)⟩

theorem filter_take {α : Type} (q : α → Bool) {l : List α} {k : Nat} {x : α} (h : l[k]? = some x) : (l.take (k + 1)).filter q = (l.take k).filter q ++ if q x = true then [x] else [] := by
  obtain ⟨hk, rfl⟩ := List.getElem?_eq_some_iff.1 h
  rw [List.take_succ_eq_append_getElem hk, List.filter_append]
  congr 1
  by_cases h : q l[k] = true <;> simp [h]
set_option maxRecDepth 100000 in
set_option maxHeartbeats 4000000 in
theorem rwithout_any (l : List Int) (y : Int) (A : Option Addr) (n c : Nat) (w : World) (hx : RdI w A n l) (hn : n ≤ 1000000) :
    Calls Tryz.prog 32 #[.slice A n c, .int .i64 y] w (NewInts w (l.filter fun x => x != y)) := by
  have hl := hx.1
  have HX := Lib.hid hx
  have HL := Lib.hid hl
  clear hx hl
  obtain ⟨ii, hii, hzi0, hzi1, hzi2⟩ := info_parts infoI
  go_enter Tryz.func32, Tryz.ntmps32
  go_wp2_with fail
  go_loopw [5, 6] (fun v i wr => ∃ k : Nat, k ≤ n ∧ i = .int .i64 k ∧ wr.ownsRow w.heap.size 3 1 v ((l.take k).filter fun x => x != y).length (((l.take k).filter fun x => x != y).map (Value.int .i64)) ∧ Below w.heap.size w wr) (fun _ i _ => n - (intOf i).toNat)
  case atStart => exact ⟨0, Nat.zero_le _, rfl, World.ownsRow_nil _ _ _ _, Below.refl _ _⟩
  case round =>
    obtain ⟨k, hk, rfl, hrw, hB⟩ := hrel
    have HRw := Lib.hid hrw; have HB := Lib.hid hB
    have hBz := hB.size
    have HBz := Lib.hid hBz
    have hfl : ((l.take k).filter fun x => x != y).length ≤ k := Nat.le_trans (List.length_filter_le _ _) (List.length_take_le _ _)
    clear hrw hB
    by_cases hlt : k < n
    · obtain ⟨v, ad, hv, rfl, cv⟩ := rdI_get (HX.out.below HB.out) hlt
      have HSu := Lib.hid (filter_take (fun x => x != y) hv)
      have hkn : (k : Int) < (n : Int) := by omega
      clear hv
      cases hq : (v != y)
      · have HS2 : Hid ((l.take (k + 1)).filter (fun x => x != y) = (l.take k).filter fun x => x != y) := by have := HSu.out; rw [hq, if_neg (by decide), List.append_nil] at this; exact this
        go_wp2_with fail
        go_roundw
        case rel => exact ⟨k + 1, by omega, by go_num, by rw [HS2.out]; exact HRw.out, HB.out⟩
        case measure => simp [intOf]; omega
      · have HS2 : Hid ((l.take (k + 1)).filter (fun x => x != y) = ((l.take k).filter fun x => x != y) ++ [v]) := by have := HSu.out; rw [hq, if_pos rfl] at this; exact this
        go_wp2_with (at_builtin; refine wpList_append_one rfl _ _ 38 rfl w.heap.size 3 ii (.int .i64 0) 8 Tryz.underlying38 hii hzi0 hzi1 hzi2 rfl _ _ _ rfl HRw.out (.int .i64 v) wr.heap.size rfl rfl (by simp [Value.oneCell']) (by unfold maxLen; omega) (by omega) HBz.out ?_; intro A' c'' w2 hown' hgrow _; have HO2 := Lib.hid hown'; have HG2 := Lib.hid hgrow; clear hown' hgrow)
        go_roundw
        case rel => exact ⟨k + 1, by omega, by go_num, by rw [HS2.out, List.length_append, List.map_append]; exact HO2.out, HB.out.grown HG2.out HBz.out (fun r e => (HRw.out.lt r e).1)⟩
        case measure => simp [intOf]; omega
    · obtain rfl : n = k := by omega
      have HF : Hid (l.take n = l) := List.take_of_length_le (by have := HL.out; omega)
      rw [HF.out] at HRw
      go_wp2_with fail
      go_ret
      exact ⟨_, rfl, HRw.out, HB.out⟩
end Go.Proofs.YtadldndpphdmpaaGreat
namespace Go.Proofs.YtadldndpphdmpaaGreat
open Go.RowKit


abbrev RdB := @Rd Bool (fun b => [Value.bool b]) 1
theorem rdB_get {w : World} {A : Option Addr} {n : Nat} {xs : List Bool} (h : RdB w A n xs) {k : Nat} (hk : k < n) : ∃ (x : Bool) (ad : Addr), xs[k]? = some x ∧ A = some ad ∧ w.cell? (ad.add k) = some (.bool x) := by
  obtain ⟨x, ad, h1, h2, h3⟩ := h.get hk
  have h4 := h3 0 _ rfl
  rw [Nat.mul_one] at h4
  exact ⟨x, ad, h1, h2, h4⟩
theorem flat_bool (xs : List Bool) : xs.flatMap (fun x => [Value.bool x]) = xs.map Value.bool := by induction xs <;> simp_all
theorem rdB_of_own {w : World} {base : Nat} {v : Value} {n : Nat} {xs : List Bool} (h : w.ownsRow base 4 1 v n (xs.map Value.bool)) (hn : xs.length = n) : ∃ A c, v = .slice A n c ∧ RdB w A n xs ∧ n ≤ c ∧ c ≤ maxLen := by
  rw [← flat_bool] at h
  exact rd_of_own (enc := fun x : Bool => [Value.bool x]) (k := 1) (fun _ => rfl) h hn
/-- A new list of bools. -/
def NewBools (w : World) (l : List Bool) (e : Ending) (w' : World) : Prop :=
  ∃ v, e = .returned v ∧ w'.ownsRow w.heap.size 4 1 v l.length (l.map Value.bool) ∧ Below w.heap.size w w'
theorem infoB : (Tryz.prog.info? 4).map (fun i => (i.zero, i.size, i.bytes)) = some (some (.bool false), 1, 1) := by kernel_rfl

theorem filter_step {α : Type} (q : α → Bool) {l : List α} {k : Nat} {x : α} (h : l[k]? = some x) : ((l.take (k + 1)).filter q).length = ((l.take k).filter q).length + if q x = true then 1 else 0 := by
  rw [filter_take q h, List.length_append]
  by_cases c : q x = true
  · rw [if_pos c, if_pos c]; rfl
  · rw [if_neg c, if_neg c]; rfl

set_option maxRecDepth 100000 in
set_option maxHeartbeats 4000000 in
theorem so_any (m : NdM) (F : List Bool) (B : Option Addr) (q cq : Nat) (w : World) (hm : NdR w m) (h10 : m.nd.ins.length ≤ 1000000) (hF : RdB w B q F) (hi : ∀ k ∈ m.nd.ins, 0 ≤ k ∧ k < q) :
    Calls Tryz.prog 64 #[.agg m.val, .slice B q cq] w fun e w' => e = .returned (.bool (so m.nd (fun j => F.getD j false))) ∧ Below w.heap.size w w' := by
  obtain ⟨W1, hW1⟩ : ∃ W1, w.alloc (.cells m.val 40) = W1 := ⟨_, rfl⟩
  have HB1 : Hid (Below w.heap.size w W1) := by rw [← hW1]; exact (Below.refl _ w).alloc (Nat.le_refl _) _
  have K1 : Hid (Blk W1 w.heap.size 40 m.val) := by rw [← hW1]; exact Blk.new w _ _ rfl
  have HI := Lib.hid (hm.ins.below HB1.out)
  have HF := Lib.hid (hF.below HB1.out)
  have HFl := Lib.hid hF.1
  have HIl := Lib.hid hi
  have HX : Hid (so m.nd (fun j => F.getD j false) = if m.nd.kind = 2 then hitsF m.nd (fun j => F.getD j false) == m.nd.ins.length else if m.nd.kind = 3 then decide (1 ≤ hitsF m.nd (fun j => F.getD j false)) else decide (m.nd.cnt ≤ (hitsF m.nd (fun j => F.getD j false) : Int))) := so_hits _ _
  have HH : Hid (hitsF m.nd (fun j => F.getD j false) = (m.nd.ins.filter fun k => F.getD k.toNat false).length) := rfl
  have hle := hitsF_le m.nd (fun j => F.getD j false)
  have HW1 := Lib.hid hW1
  clear hW1 hm hF hi
  generalize hitsF m.nd (fun j => F.getD j false) = hh at *
  generalize so m.nd (fun j => F.getD j false) = X at *
  obtain ⟨⟨na, ki, li, cn, ho⟩, A2, c2⟩ := m
  dsimp only [NdM.val] at *
  go_enter Tryz.func64, Tryz.ntmps64
  go_wp2_with fail
  rw [HW1.out]
  go_loopw [5, 6] (fun v i wr => ∃ k : Nat, k ≤ li.length ∧ i = .int .i64 k ∧ v = .int .i64 (((li.take k).filter fun k => F.getD k.toNat false).length : Int) ∧ Below W1.heap.size W1 wr) (fun _ i _ => li.length - (intOf i).toNat)
  case atStart => exact ⟨0, Nat.zero_le _, rfl, rfl, Below.refl _ _⟩
  case round =>
    obtain ⟨k, hk, rfl, rfl, hB⟩ := hrel
    have HB := Lib.hid hB
    have K := K1.out.later hB
    have k1 := K.cell (i := 1) rfl
    have k2 := K.cell (i := 2) rfl
    have k3 := K.cell (i := 3) rfl
    have kz := K.lt
    clear hB K
    have hfl : ((li.take k).filter fun k => F.getD k.toNat false).length ≤ k := Nat.le_trans (List.length_filter_le _ _) (List.length_take_le _ _)
    by_cases hlt : k < li.length
    · obtain ⟨y, ad, hy, rfl, cy⟩ := rdI_get (HI.out.below HB.out) hlt
      obtain ⟨y0, y1⟩ := HIl.out y (List.mem_of_getElem? hy)
      obtain ⟨yn, rfl⟩ : ∃ yn : Nat, y = (yn : Int) := ⟨y.toNat, by omega⟩
      obtain ⟨b, bd, hb, rfl, cb⟩ := rdB_get (HF.out.below HB.out) (k := yn) (by omega)
      have hSt := filter_step (fun k : Int => F.getD k.toNat false) hy
      have hgb : F.getD yn false = b := by rw [List.getD_eq_getElem?_getD, hb]; rfl
      simp only [Int.toNat_natCast, hgb] at hSt
      have HSt := Lib.hid hSt
      have hkl : (k : Int) < (li.length : Int) := by omega
      have hyq : (yn : Int) < (q : Int) := by omega
      clear hy hb hSt hgb
      generalize ((li.take k).filter fun k => F.getD k.toNat false).length = f0 at *
      cases b
      · have HS2 : Hid (((li.take (k + 1)).filter fun k => F.getD k.toNat false).length = f0) := by have := HSt.out; rw [if_neg (by decide)] at this; exact this
        go_wp2_with fail
        go_roundw
        case rel => exact ⟨k + 1, by omega, by go_num, by rw [HS2.out], HB.out⟩
        case measure => simp [intOf]; omega
      · have HS2 : Hid (((li.take (k + 1)).filter fun k => F.getD k.toNat false).length = f0 + 1) := by have := HSt.out; rw [if_pos rfl] at this; exact this
        go_wp2_with fail
        go_roundw
        case rel => exact ⟨k + 1, by omega, by go_num, by rw [HS2.out]; go_num, HB.out⟩
        case measure => simp [intOf]; omega
    · obtain rfl : k = li.length := by omega
      rw [List.take_length] at hfl ⊢
      rw [← HH.out] at hfl ⊢
      have HBf : Hid (Below w.heap.size w wr) := HB1.out.trans (HB.out.mono HB1.out.size)
      by_cases h2 : ki = 2
      · have hq : (ki == 2) = true := by simpa using h2
        have HY : Hid (((hh : Int) == (li.length : Int)) = X) := by
          have := HX.out
          rw [if_pos h2] at this
          rw [this]
          show _ = _
          rw [Bool.eq_iff_iff]; simp; try omega
        clear h2
        go_wp2_with fail
        go_ret
        exact ⟨ret_bool HY.out, HBf.out⟩
      · have hq : (ki == 2) = false := by simpa using h2
        by_cases h3 : ki = 3
        · have hq3 : (ki == 3) = true := by simpa using h3
          have HY : Hid (decide (1 ≤ hh) = X) := by
            have := HX.out
            rw [if_neg h2, if_pos h3] at this
            exact this.symm
          clear h2 h3
          go_wp2_with fail
          go_ret
          exact ⟨ret_bool (by rw [← HY.out] <;> first | rfl | (simp; try omega)), HBf.out⟩
        · have hq3 : (ki == 3) = false := by simpa using h3
          have HY : Hid (decide (cn ≤ (hh : Int)) = X) := by
            have := HX.out
            rw [if_neg h2, if_neg h3] at this
            exact this.symm
          clear h2 h3
          go_wp2_with fail
          go_ret
          exact ⟨ret_bool (by rw [← HY.out] <;> first | rfl | (simp; try omega)), HBf.out⟩

theorem range_map_succ {α : Type} (f : Nat → α) (k : Nat) : (List.range (k + 1)).map f = (List.range k).map f ++ [f k] := by rw [List.range_succ, List.map_append]; rfl
theorem range_getD (f : Nat → Bool) {k j : Nat} (h : j < k) : ((List.range k).map f).getD j false = f j := by
  rw [List.getD_eq_getElem?_getD, List.getElem?_map, List.getElem?_range h]; rfl
set_option maxRecDepth 100000 in
set_option maxHeartbeats 4000000 in
theorem reffects_any (t : List Nd) (l : List Int) (A : Option Addr) (n c : Nat) (ms : List NdM) (L : Option Addr) (cl : Nat) (w : World) (hT : TrM w t A n ms) (hO : TrOk t) (hL : RdI w L l.length l) (hl : l.length ≤ 1000000000000000) :
    Calls Tryz.prog 53 #[.agg #[.slice A n c], .slice L l.length cl] w (NewBools w ((List.range t.length).map (ef t fun j => decide ((j : Int) ∈ l)))) := by
  have hln := hT.len
  have hn := hO.l40
  rw [hln] at hn ⊢
  have HO := Lib.hid hO
  have HEq := Lib.hid (fun i x (hx : t[i]? = some x) => ef_eq hO (fun j => decide ((j : Int) ∈ l)) hx)
  obtain ⟨W1, hW1⟩ : ∃ W1, w.alloc (.cells #[.slice A n c] 24) = W1 := ⟨_, rfl⟩
  have HB1 : Hid (Below w.heap.size w W1) := by rw [← hW1]; exact (Below.refl _ w).alloc (Nat.le_refl _) _
  have K1 : Hid (Blk W1 w.heap.size 24 #[.slice A n c]) := by rw [← hW1]; exact Blk.new w _ _ rfl
  have HT := Lib.hid (hT.below HB1.out)
  have HR := Lib.hid (hL.below HB1.out)
  have HW1 := Lib.hid hW1
  clear hW1 hT hL hO hln
  generalize ef t (fun j => decide ((j : Int) ∈ l)) = E at *
  obtain ⟨ii, hii, hzi0, hzi1, hzi2⟩ := info_parts infoB
  go_enter Tryz.func53, Tryz.ntmps53
  go_wp2_with fail
  rw [HW1.out]
  go_loopw [5, 6] (fun v i wr => ∃ k : Nat, k ≤ n ∧ i = .int .i64 k ∧ wr.ownsRow W1.heap.size 4 1 v k (((List.range k).map E).map Value.bool) ∧ Below W1.heap.size W1 wr) (fun _ i _ => n - (intOf i).toNat)
  case atStart => exact ⟨0, Nat.zero_le _, rfl, World.ownsRow_nil _ _ _ _, Below.refl _ _⟩
  case round =>
    obtain ⟨k, hk, rfl, hrw, hB⟩ := hrel
    have HRw := Lib.hid hrw; have HB := Lib.hid hB
    have K := K1.out.later hB
    have k0 := K.cell (i := 0) rfl
    have kz := K.lt
    have hBz := hB.size
    have HBz := Lib.hid hBz
    clear hrw hB K
    by_cases hlt : k < n
    · obtain ⟨m, ad, hm, hA, ha, hN⟩ := (HT.out.below HB.out).get hlt
      subst hA
      have HE := Lib.hid (HEq.out k m.nd hm)
      have HSu := Lib.hid (range_map_succ E k)
      obtain ⟨c0, c1, c2, c3, c4⟩ := ha.five
      have hcz : (ad.add (k * 5)).block < wr.heap.size := cell_lt c0
      have hkn : (k : Int) < (n : Int) := by omega
      have HNd := Lib.hid (HO.out.nd k m.nd hm)
      have HN := Lib.hid hN
      clear hm ha hN
      by_cases hki : m.nd.kind = 1
      · have hq : (m.nd.kind == 1) = true := by simpa using hki
        have HC := Lib.hid (rhas_any l k L l.length cl wr (HR.out.below HB.out) hl)
        have HE2 : Hid (decide ((k : Int) ∈ l) = E k) := by have := HE.out; rw [if_pos hki] at this; exact this.symm
        obtain ⟨⟨na, ki, li, cn, ho⟩, A2, c2'⟩ := m
        dsimp only at *
        clear hki
        go_wp2_with fail
        refine HC.out.mono ?_
        rintro e W2 ⟨rfl, hb2⟩
        have HB2 : Hid (Below wr.heap.size wr W2) := hb2
        have HRw2 : Hid (W2.ownsRow W1.heap.size 4 1 u5 k (((List.range k).map E).map Value.bool)) := own_far HRw.out (grown_of_below HB2.out none) (fun r e => by cases e)
        have HZ2 : Hid (W1.heap.size ≤ W2.heap.size) := by have := HB2.out.size; show _ ≤ _; omega
        rw [HE2.out]
        generalize E k = ek at *
        clear hb2 HC k0 c0 c1 c2 c3 c4 kz hcz
        go_wp2_with (at_builtin; refine wpList_append_one rfl _ _ 99 rfl W1.heap.size 4 ii (.bool false) 1 Tryz.underlying99 hii hzi0 hzi1 hzi2 rfl _ _ _ rfl HRw2.out (.bool ek) W2.heap.size rfl rfl (by simp [Value.oneCell']) (by unfold maxLen; omega) (by omega) HZ2.out ?_; intro A' c'' w2 hown' hgrow _; have HO2 := Lib.hid hown'; have HG2 := Lib.hid hgrow; clear hown' hgrow)
        go_roundw
        case rel => exact ⟨k + 1, by omega, by go_num, by rw [HSu.out, List.map_append]; exact HO2.out, (HB.out.trans (HB2.out.mono HBz.out)).grown HG2.out HZ2.out (fun r e => (HRw2.out.lt r e).1)⟩
        case measure => simp [intOf]; omega
      · have hq : (m.nd.kind == 1) = false := by simpa using hki
        obtain ⟨A4, c4', e4, hr4, _, _⟩ := rdB_of_own HRw.out (by simp)
        subst e4
        have hC := so_any m ((List.range k).map E) A4 k c4' wr HN.out (by have := HNd.out.l10; omega) hr4 HNd.out.ins
        have HE2 : Hid (so m.nd (fun j => ((List.range k).map E).getD j false) = E k) := by
          have := HE.out
          rw [if_neg hki] at this
          rw [this]
          exact so_congr fun y hy => range_getD E (by have := HNd.out.ins y hy; omega)
        rw [HE2.out] at hC
        have HC := Lib.hid hC
        clear hC hr4 HE2 HE
        obtain ⟨⟨na, ki, li, cn, ho⟩, A2, c2'⟩ := m
        dsimp only [NdM.val] at *
        clear hki
        generalize E k = ek at *
        go_wp2_with fail
        refine HC.out.mono ?_
        rintro e W2 ⟨rfl, hb2⟩
        have HB2 : Hid (Below wr.heap.size wr W2) := hb2
        have HRw2 : Hid (W2.ownsRow W1.heap.size 4 1 (.slice A4 k c4') k (((List.range k).map E).map Value.bool)) := own_far HRw.out (grown_of_below HB2.out none) (fun r e => by cases e)
        have HZ2 : Hid (W1.heap.size ≤ W2.heap.size) := by have := HB2.out.size; show _ ≤ _; omega
        clear hb2 HC k0 c0 c1 c2 c3 c4 kz hcz
        go_wp2_with (at_builtin; refine wpList_append_one rfl _ _ 99 rfl W1.heap.size 4 ii (.bool false) 1 Tryz.underlying99 hii hzi0 hzi1 hzi2 rfl _ _ _ rfl HRw2.out (.bool ek) W2.heap.size rfl rfl (by simp [Value.oneCell']) (by unfold maxLen; omega) (by omega) HZ2.out ?_; intro A' c'' w2 hown' hgrow _; have HO2 := Lib.hid hown'; have HG2 := Lib.hid hgrow; clear hown' hgrow)
        go_roundw
        case rel => exact ⟨k + 1, by omega, by go_num, by rw [HSu.out, List.map_append]; exact HO2.out, (HB.out.trans (HB2.out.mono HBz.out)).grown HG2.out HZ2.out (fun r e => (HRw2.out.lt r e).1)⟩
        case measure => simp [intOf]; omega
    · obtain rfl : n = k := by omega
      go_wp2_with fail
      go_ret
      exact ⟨_, rfl, by rw [List.length_map, List.length_range]; exact own_lower HRw.out HB1.out.size, HB1.out.trans (HB.out.mono HB1.out.size)⟩
end Go.Proofs.YtadldndpphdmpaaGreat
namespace Go.Proofs.YtadldndpphdmpaaGreat
open Go.RowKit


theorem below_of_drew {B : Nat} {a b : World} (h : Below B a.drew b) : Below B a b := ⟨h.os, h.tape, h.output, h.size, h.block⟩
theorem basL_le {t : List Nd} (h : TrOk t) : (basL t).length ≤ 10 := by rw [basL_len]; exact h.b10
end Go.Proofs.YtadldndpphdmpaaGreat
