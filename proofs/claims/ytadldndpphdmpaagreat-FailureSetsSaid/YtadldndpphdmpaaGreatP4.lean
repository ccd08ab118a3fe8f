/- Causes and Guards. -/
import Derived.Test.YtadldndpphdmpaaGreatP3
namespace Go.Proofs.YtadldndpphdmpaaGreat
open Go.RowKit Go.Shelf

/-- Lists and an error. -/
def ListsErr (w : World) (X : List (List Int) × Int) (e : Ending) (w' : World) : Prop :=
  ∃ v ps, e = .returned (.tuple #[v, .int .i64 X.2]) ∧ IntRows w' w.heap.size v ps ∧ ps.map (·.1) = X.1 ∧ Below w.heap.size w w'
theorem listsErr_nil {w w' : World} {x : Int} (hb : Below w.heap.size w w') : ListsErr w ([], x) (.returned (.tuple #[.slice none 0 0, .int .i64 x])) w' :=
  ⟨_, [], rfl, ⟨World.ownsRow_nil _ _ _ _, fun p hp => by simp at hp⟩, rfl, hb⟩
/-- What Causes returns. -/
def causesT (t : List Nd) (node : Int) : List (List Int) × Int :=
  if (aboutT t node []).1 ≠ 0 then ([], (aboutT t node []).1) else ((leastN (fun s => (eff t s).testBit node.toNat) (bas t)).map bitsL, 0)
def guardsT (t : List Nd) (node : Int) : List (List Int) × Int :=
  if (aboutT t node []).1 ≠ 0 then ([], (aboutT t node []).1) else ((leastN (soundB t node.toNat) (bas t)).map bitsL, 0)
theorem sub_all (t : List Nd) : Sub t (bas t) := fun j hj => by rwa [bas_bit] at hj
theorem about_node {t : List Nd} {node : Int} (h : (aboutT t node []).1 = 0) : 0 ≤ node ∧ node.toNat < t.length ∧ t.length ≤ 40 := by
  unfold aboutT at h
  by_cases h1 : (chkT t).2 ≠ 0
  · rw [if_pos h1] at h; exact absurd h h1
  · rw [if_neg h1] at h
    have hok : TrOk t := chkT_ok.1 (Classical.byContradiction h1)
    by_cases h2 : outB node 0 ((t.length : Int) - 1) = true
    · rw [if_pos h2] at h; exact absurd (show (4 : Int) = 0 from h) (by decide)
    · have := outB_false (Bool.eq_false_iff.2 h2)
      have := hok.l40
      omega

set_option maxRecDepth 100000 in
set_option maxHeartbeats 4000000 in
theorem Causes_any (t : List Nd) (node : Int) (A : Option Addr) (n c : Nat) (ms : List NdM) (w : World) (hT : TrM w t A n ms) (hc : n ≤ c) :
    Calls Tryz.prog 7 #[.agg #[.slice A n c], .int .i64 node] w (ListsErr w (causesT t node)) := by
  obtain ⟨W1, hW1⟩ : ∃ W1, (w.alloc (.cells #[.slice A n c] 24)).alloc (.cells #[.int .i64 node] 3) = W1 := ⟨_, rfl⟩
  have HB1 : Hid (Below w.heap.size w W1) := by rw [← hW1]; exact ((Below.refl _ w).alloc (Nat.le_refl _) _).alloc (by simp) _
  have K1 : Hid (Blk W1 (w.heap.size + 1) 3 #[.int .i64 node]) := by rw [← hW1]; exact Blk.new _ _ _ (by simp)
  have K0 : Hid (Blk W1 w.heap.size 24 #[.slice A n c]) := by rw [← hW1]; exact (Blk.new w _ _ rfl).alloc _
  have HAb := Lib.hid (about_any t node [] A n c ms none 0 0 [] W1 (hT.below HB1.out) hc (LsM.zero _ _) (by omega))
  have HW1 := Lib.hid hW1
  clear hW1 hT
  have HErr : Hid (∀ x, (aboutT t node []).1 = x → x ≠ 0 → ∀ w', Below w.heap.size w w' → ListsErr w (causesT t node) (.returned (.tuple #[.slice none 0 0, .int .i64 x])) w') := fun x hx hne w' hb => by
    unfold causesT
    rw [if_pos (by rw [hx]; exact hne), hx]
    exact listsErr_nil hb
  go_enter Tryz.func7, Tryz.ntmps7
  go_wp2_with fail
  rw [HW1.out]
  refine HAb.out.mono ?_
  rintro e W2 (⟨h0, rfl, hb⟩ | ⟨h0, T, M, cr, R, v, rfl, hF, hrow, hb, hM, hTb⟩)
  · have HB2 := Lib.hid (HB1.out.trans (hb.mono HB1.out.size))
    have hne : ((aboutT t node []).1 != 0) = true := by simpa using h0
    have F := Lib.hid (HErr.out _ rfl h0)
    generalize (aboutT t node []).1 = x at *
    clear h0 hb HAb
    go_wp2_with fail
    first | exact F.out _ (HB2.out.alloc HB2.out.size _) | (go_ret2; exact F.out _ (HB2.out.alloc HB2.out.size _))
  · have HB2 := Lib.hid (HB1.out.trans (hb.mono HB1.out.size))
    obtain ⟨n0, n1, n40⟩ := about_node h0
    obtain ⟨nn, rfl⟩ : ∃ nn : Nat, node = (nn : Int) := ⟨node.toNat, by omega⟩
    have hok := hF.ok
    have HOk : Hid (∀ v ps w', IntRows w' w.heap.size v ps → ps.map (·.1) = (leastN (fun s => (eff t s).testBit nn) (bas t)).map bitsL → Below w.heap.size w w' → ListsErr w (causesT t nn) (.returned (.tuple #[v, .int .i64 0])) w') := fun v ps w' h1 h2 h3 => by
      unfold causesT
      rw [if_neg (by simpa using h0)]
      exact ⟨v, ps, rfl, h1, h2, h3⟩
    have KN := Lib.hid (K1.out.later hb)
    obtain ⟨W3, hW3⟩ : ∃ W3, W2.alloc (.cells #[.pointer (some ⟨T, 0, none⟩)] 47) = W3 := ⟨_, rfl⟩
    have HB3 : Hid (Below W2.heap.size W2 W3) := by rw [← hW3]; exact (Below.refl _ _).alloc (Nat.le_refl _) _
    have KF : Hid (Blk W3 W2.heap.size 47 #[.pointer (some ⟨T, 0, none⟩)]) := by rw [← hW3]; exact Blk.new _ _ _ rfl
    have KN3 := Lib.hid (KN.out.later HB3.out)
    have HF3 := Lib.hid (hF.below HB3.out)
    have HW3 := Lib.hid hW3
    have HM2 : Hid (w.heap.size ≤ M) := by have := HB1.out.size; show _ ≤ _; omega
    have qb := hF.blk.cell (i := 2) rfl
    have qbl := hF.blk.lt
    clear hW3 hF hrow hb hM hTb HAb h0
    have HSu := Lib.hid (subsets_any (bas t) W3)
    have HBa := Lib.hid (bas_lt64 hok)
    go_wp2_with fail
    rw [HW3.out]
    refine HSu.out.mono ?_
    rintro e W4 ⟨rfl, hW4⟩
    have HB4 : Hid (Below W3.heap.size W3 W4) := by rw [← hW4]; exact (Below.refl _ _).alloc (Nat.le_refl _) _
    have KA : Hid (Blk W4 W3.heap.size 57 #[.int .u64 (bas t)]) := by rw [← hW4]; exact Blk.new _ _ _ rfl
    have HF4 := Lib.hid (HF3.out.below HB4.out)
    have KF4 := Lib.hid (KF.out.later HB4.out)
    have KN4 := Lib.hid (KN3.out.later HB4.out)
    have HM4 := HF4.out.kn.noCells
    have HLe := Lib.hid (least_any (fun s => (eff t s).testBit nn) (bas t) 24 W3.heap.size #[.pointer (some ⟨W2.heap.size, 0, none⟩), .pointer (some ⟨w.heap.size + 1, 0, none⟩)] t T A n c ms R cr M 0 W4 HF4.out (by omega) (sub_all t) HBa.out (KA.out.cell (i := 0) rfl)
      (enters_of Tryz.func24 (by kernel_rfl) rfl)
      (fun s k W hs _ hk hFW hBW => Causes1_any t s nn T A n c ms R cr M k W2.heap.size (w.heap.size + 1) W hFW hs hk (by omega) (hBW.cell KF4.out.lt HM4 (KF4.out.cell (i := 0) rfl)) (hBW.cell KN4.out.lt HM4 (KN4.out.cell (i := 0) rfl))))
    clear hW4 qb qbl HM4
    go_wp2_with fail
    refine HLe.out.mono ?_
    rintro e W5 ⟨v5, ps, rfl, h1, h2, h3⟩
    have HBw4 : Below w.heap.size w W4 := (HB2.out.trans (HB3.out.mono HB2.out.size)).trans (HB4.out.mono (HB2.out.trans (HB3.out.mono HB2.out.size)).size)
    have F := Lib.hid (HOk.out v5 ps W5 (h1.lower HBw4.size) h2 (HBw4.trans (h3.below HM2.out HBw4.size)))
    clear h1 h2 h3
    go_wp2_with fail
    first | exact F.out | (go_ret2; exact F.out)
set_option maxRecDepth 100000 in
set_option maxHeartbeats 4000000 in
theorem Guards_any (t : List Nd) (node : Int) (A : Option Addr) (n c : Nat) (ms : List NdM) (w : World) (hT : TrM w t A n ms) (hc : n ≤ c) :
    Calls Tryz.prog 10 #[.agg #[.slice A n c], .int .i64 node] w (ListsErr w (guardsT t node)) := by
  obtain ⟨W1, hW1⟩ : ∃ W1, (w.alloc (.cells #[.slice A n c] 24)).alloc (.cells #[.int .i64 node] 3) = W1 := ⟨_, rfl⟩
  have HB1 : Hid (Below w.heap.size w W1) := by rw [← hW1]; exact ((Below.refl _ w).alloc (Nat.le_refl _) _).alloc (by simp) _
  have K1 : Hid (Blk W1 (w.heap.size + 1) 3 #[.int .i64 node]) := by rw [← hW1]; exact Blk.new _ _ _ (by simp)
  have K0 : Hid (Blk W1 w.heap.size 24 #[.slice A n c]) := by rw [← hW1]; exact (Blk.new w _ _ rfl).alloc _
  have HAb := Lib.hid (about_any t node [] A n c ms none 0 0 [] W1 (hT.below HB1.out) hc (LsM.zero _ _) (by omega))
  have HW1 := Lib.hid hW1
  clear hW1 hT
  have HErr : Hid (∀ x, (aboutT t node []).1 = x → x ≠ 0 → ∀ w', Below w.heap.size w w' → ListsErr w (guardsT t node) (.returned (.tuple #[.slice none 0 0, .int .i64 x])) w') := fun x hx hne w' hb => by
    unfold guardsT
    rw [if_pos (by rw [hx]; exact hne), hx]
    exact listsErr_nil hb
  go_enter Tryz.func10, Tryz.ntmps10
  go_wp2_with fail
  rw [HW1.out]
  refine HAb.out.mono ?_
  rintro e W2 (⟨h0, rfl, hb⟩ | ⟨h0, T, M, cr, R, v, rfl, hF, hrow, hb, hM, hTb⟩)
  · have HB2 := Lib.hid (HB1.out.trans (hb.mono HB1.out.size))
    have hne : ((aboutT t node []).1 != 0) = true := by simpa using h0
    have F := Lib.hid (HErr.out _ rfl h0)
    generalize (aboutT t node []).1 = x at *
    clear h0 hb HAb
    go_wp2_with fail
    first | exact F.out _ (HB2.out.alloc HB2.out.size _) | (go_ret2; exact F.out _ (HB2.out.alloc HB2.out.size _))
  · have HB2 := Lib.hid (HB1.out.trans (hb.mono HB1.out.size))
    obtain ⟨n0, n1, n40⟩ := about_node h0
    obtain ⟨nn, rfl⟩ : ∃ nn : Nat, node = (nn : Int) := ⟨node.toNat, by omega⟩
    have hok := hF.ok
    have HOk : Hid (∀ v ps w', IntRows w' w.heap.size v ps → ps.map (·.1) = (leastN (soundB t nn) (bas t)).map bitsL → Below w.heap.size w w' → ListsErr w (guardsT t nn) (.returned (.tuple #[v, .int .i64 0])) w') := fun v ps w' h1 h2 h3 => by
      unfold guardsT
      rw [if_neg (by simpa using h0)]
      exact ⟨v, ps, rfl, h1, h2, h3⟩
    have KN := Lib.hid (K1.out.later hb)
    obtain ⟨W3, hW3⟩ : ∃ W3, W2.alloc (.cells #[.pointer (some ⟨T, 0, none⟩)] 47) = W3 := ⟨_, rfl⟩
    have HB3 : Hid (Below W2.heap.size W2 W3) := by rw [← hW3]; exact (Below.refl _ _).alloc (Nat.le_refl _) _
    have KF : Hid (Blk W3 W2.heap.size 47 #[.pointer (some ⟨T, 0, none⟩)]) := by rw [← hW3]; exact Blk.new _ _ _ rfl
    have KN3 := Lib.hid (KN.out.later HB3.out)
    have HF3 := Lib.hid (hF.below HB3.out)
    have HW3 := Lib.hid hW3
    have HM2 : Hid (w.heap.size ≤ M) := by have := HB1.out.size; show _ ≤ _; omega
    have qb := hF.blk.cell (i := 2) rfl
    have qbl := hF.blk.lt
    clear hW3 hF hrow hb hM hTb HAb h0
    have HSu := Lib.hid (subsets_any (bas t) W3)
    have HBa := Lib.hid (bas_lt64 hok)
    go_wp2_with fail
    rw [HW3.out]
    refine HSu.out.mono ?_
    rintro e W4 ⟨rfl, hW4⟩
    have HB4 : Hid (Below W3.heap.size W3 W4) := by rw [← hW4]; exact (Below.refl _ _).alloc (Nat.le_refl _) _
    have KA : Hid (Blk W4 W3.heap.size 57 #[.int .u64 (bas t)]) := by rw [← hW4]; exact Blk.new _ _ _ rfl
    have HF4 := Lib.hid (HF3.out.below HB4.out)
    have KF4 := Lib.hid (KF.out.later HB4.out)
    have KN4 := Lib.hid (KN3.out.later HB4.out)
    have HM4 := HF4.out.kn.noCells
    have HLe := Lib.hid (least_any (soundB t nn) (bas t) 34 W3.heap.size #[.pointer (some ⟨W2.heap.size, 0, none⟩), .pointer (some ⟨w.heap.size + 1, 0, none⟩)] t T A n c ms R cr M 0 W4 HF4.out (by omega) (sub_all t) HBa.out (KA.out.cell (i := 0) rfl)
      (enters_of Tryz.func34 (by kernel_rfl) rfl)
      (fun s k W _ _ hk hFW hBW => Guards1_any t s nn T A n c ms R cr M k W2.heap.size (w.heap.size + 1) W hFW hk (by omega) (hBW.cell KF4.out.lt HM4 (KF4.out.cell (i := 0) rfl)) (hBW.cell KN4.out.lt HM4 (KN4.out.cell (i := 0) rfl))))
    clear hW4 qb qbl HM4
    go_wp2_with fail
    refine HLe.out.mono ?_
    rintro e W5 ⟨v5, ps, rfl, h1, h2, h3⟩
    have HBw4 : Below w.heap.size w W4 := (HB2.out.trans (HB3.out.mono HB2.out.size)).trans (HB4.out.mono (HB2.out.trans (HB3.out.mono HB2.out.size)).size)
    have F := Lib.hid (HOk.out v5 ps W5 (h1.lower HBw4.size) h2 (HBw4.trans (h3.below HM2.out HBw4.size)))
    clear h1 h2 h3
    go_wp2_with fail
    first | exact F.out | (go_ret2; exact F.out)
end Go.Proofs.YtadldndpphdmpaaGreat
