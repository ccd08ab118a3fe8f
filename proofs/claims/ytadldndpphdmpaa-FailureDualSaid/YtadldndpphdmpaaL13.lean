/- FailureDual returns true. -/
import Derived.Test.YtadldndpphdmpaaHn
import Derived.Test.YtadldndpphdmpaaL0
import Derived.Test.YtadldndpphdmpaaL5
import Derived.Test.YtadldndpphdmpaaS1
import Derived.Test.YtadldndpphdmpaaL2
namespace Go.Proofs.Ytadldndpphdmpaa
open Go.RowKit Go.Shelf

/-- What the law's loop does with a node. -/
def dualM (m : NdM) : NdM := if m.nd.kind = 2 then m.kindTo 3 else if m.nd.kind = 3 then m.kindTo 2 else if m.nd.kind = 4 then m.cntTo ((m.nd.ins.length : Int) + 1 - m.nd.cnt) else m
theorem dualM_nd (m : NdM) : (dualM m).nd = dualNd m.nd := by
  unfold dualM dualNd
  by_cases h2 : m.nd.kind = 2
  · rw [if_pos h2, if_pos h2]; rfl
  rw [if_neg h2, if_neg h2]
  by_cases h3 : m.nd.kind = 3
  · rw [if_pos h3, if_pos h3]; rfl
  rw [if_neg h3, if_neg h3]
  by_cases h4 : m.nd.kind = 4
  · rw [if_pos h4, if_pos h4]; rfl
  rw [if_neg h4, if_neg h4]
theorem least_short2 {t : List Nd} (h : TrOk t) (p : Nat → Bool) : (leastN p (bas t)).length ≤ 1000000 := by
  have h1 : (leastN p (bas t)).length ≤ (subL (bas t)).length := by
    unfold leastN
    rw [(sortN_perm _).length_eq]
    exact List.length_filter_le _ _
  exact Nat.le_trans h1 (Nat.le_trans (subL_short h (sub_all t) (bas_lt_64 h)) (by decide))
theorem lists_short2 {t : List Nd} {y : Int} (ha : askT t y = 0) : (guardsT t y).1.length ≤ 1000000 ∧ (causesT t y).1.length ≤ 1000000 := by
  unfold guardsT causesT
  rw [ask_about, if_neg (fun c => c ha), if_neg (fun c => c ha), List.length_map, List.length_map]
  exact ⟨least_short2 (ask_ok ha).1 _, least_short2 (ask_ok ha).1 _⟩
theorem dualM_r {w : World} {m : NdM} (h : NdR w m) : NdR w (dualM m) := by
  have e1 : (dualM m).nd.ins = m.nd.ins := by rw [dualM_nd, (dual_same _).ins]
  have e2 : (dualM m).nd.name = m.nd.name := by rw [dualM_nd, (dual_same _).name]
  have e3 : (dualM m).A = m.A ∧ (dualM m).c = m.c := by
    unfold dualM
    split
    · exact ⟨rfl, rfl⟩
    split
    · exact ⟨rfl, rfl⟩
    split
    · exact ⟨rfl, rfl⟩
    · exact ⟨rfl, rfl⟩
  exact ⟨by rw [e1, e3.1]; exact h.ins, by rw [e1]; exact h.len, by rw [e1, e3.2]; exact h.cap, by rw [e2]; exact h.nam⟩

set_option maxRecDepth 100000 in
set_option maxHeartbeats 8000000 in
theorem FailureDual_any (t : List Nd) (y : Int) (A : Option Addr) (n c : Nat) (ms : List NdM) (w : World) (hT : TrM w t A n ms) (hc : n ≤ c) :
    Calls Try.prog 9 #[.agg #[.slice A n c], .int .i64 y] w fun e w' => e = .returned (.bool true) ∧ Below w.heap.size w w' := by
  have HB1 : Hid (Below w.heap.size w (w.alloc (.cells #[.slice A n c] 24))) := (Below.refl _ w).alloc (Nat.le_refl _) _
  have K1 : Hid (Blk (w.alloc (.cells #[.slice A n c] 24)) w.heap.size 24 #[.slice A n c]) := Blk.new w _ _ rfl
  obtain ⟨W1, hW1⟩ : ∃ W1, w.alloc (.cells #[.slice A n c] 24) = W1 := ⟨_, rfl⟩
  rw [hW1] at HB1 K1
  have C1 := Lib.hid (fun (W : World) (h : Below w.heap.size w W) => Causes_any t y A n c ms W (hT.below h) hc)
  have C2 := Lib.hid (fun (W : World) (h : Below w.heap.size w W) => Guards_any t y A n c ms W (hT.below h) hc)
  have HT := Lib.hid hT
  have HW1 := Lib.hid hW1
  have HE1 := Lib.hid (causes_ask t y)
  have HE2 := Lib.hid (guards_ask t y)
  clear hW1 hT
  go_enter Try.func9, Try.ntmps9
  have k0 := K1.out.cell (i := 0) rfl
  have kz := K1.out.lt
  go_wp2_with fail
  rw [HW1.out]
  refine (C1.out _ HB1.out).mono ?_
  rintro e W2 ⟨v2, cs, rfl, hr2, hcs, hb2⟩
  rw [HE1.out]
  have HB2 : Hid (Below w.heap.size w W2) := HB1.out.trans (hb2.mono HB1.out.size)
  have K2 := Lib.hid (K1.out.later hb2)
  clear hb2 k0 kz K1 HB1 HW1
  have k0 := K2.out.cell (i := 0) rfl
  have kz := K2.out.lt
  have HR2 := Lib.hid hr2
  have HCs := Lib.hid hcs
  clear hr2 hcs
  go_wp2_with fail
  refine (C2.out _ HB2.out).mono ?_
  rintro e W3 ⟨v3, gs, rfl, hr3, hgs, hb3⟩
  rw [HE2.out]
  have HB3 : Hid (Below w.heap.size w W3) := HB2.out.trans (hb3.mono HB2.out.size)
  have K3 := Lib.hid (K2.out.later hb3)
  have HR3 := Lib.hid hr3
  have HGs := Lib.hid hgs
  have HB23 := Lib.hid hb3
  clear hr3 hgs hb3 k0 kz K2 C1 C2
  by_cases ha : askT t y = 0
  · have HA := Lib.hid ha
    have HT' := Lib.hid (ask_ok ha).1
    have HLg : Hid (∀ ps : List LsP, ps.map (·.1) = (guardsT t y).1 → ∀ p ∈ ps, p.1.length ≤ 1000000000000000) := fun ps hps p hp => by
      have := setT_len HT'.out (guard_ok ha (by rw [← hps]; exact List.mem_map_of_mem hp)).1
      omega
    have HLc : Hid (∀ ps : List LsP, ps.map (·.1) = (causesT t y).1 → ∀ p ∈ ps, p.1.length ≤ 1000000000000000) := fun ps hps p hp => by
      have := setT_len HT'.out (cause_ok ha (by rw [← hps]; exact List.mem_map_of_mem hp)).1
      omega
    have HSh := Lib.hid (lists_short2 ha)
    have HDl := Lib.hid (dual_lists ha)
    obtain ⟨V2, cv2, rfl, hLs2⟩ := HR2.out.lsm (HLc.out cs HCs.out)
    obtain ⟨V3, cv3, rfl, hLs3⟩ := HR3.out.lsm (HLg.out gs HGs.out)
    rw [HCs.out] at hLs2
    rw [HGs.out] at hLs3
    have HLs2 := Lib.hid (hLs2.below HB23.out)
    have HLs3 := Lib.hid hLs3
    have h40 : n ≤ 40 := by have := HT'.out.l40; rw [HT.out.len] at this; exact this
    have h1 : 1 ≤ n := by have := HT'.out.l1; rw [HT.out.len] at this; exact this
    obtain ⟨_, ad, _, rfl, _, _⟩ := HT.out.get (i := 0) (by omega)
    clear hLs2 hLs3 HR2 HR3 HE1 HE2
    rw [ha]
    have HN40 := Lib.hid h40
    have k0 := K3.out.cell (i := 0) rfl
    have kz := K3.out.lt
    have hbs := buildN
    have HO0 : Hid ((W3.alloc (.cells #[] 53)).ownsRow W3.heap.size 53 5 (.slice (some ⟨W3.heap.size, 0, none⟩) 0 0) 0 []) := own_empty W3 W3.heap.size (Nat.le_refl _) 53 5
    have HBa : Hid (Below W3.heap.size W3 (W3.alloc (.cells #[] 53))) := (Below.refl _ W3).alloc (Nat.le_refl _) _
    have HRa : Hid (Rd NdM.enc 5 (W3.alloc (.cells #[] 53)) (some ad) n ms) := (HT.out.below (HB3.out.trans (HBa.out.mono HB3.out.size))).rd
    have hsz : W3.heap.size ≤ (W3.alloc (.cells #[] 53)).heap.size := HBa.out.size
    have ka := (K3.out.later HBa.out).cell (i := 0) rfl
    have kaz := (K3.out.later HBa.out).lt
    go_wp2_with (at_builtin; refine wpList_copy_nodes rfl _ _ rfl W3.heap.size W3.heap.size ad n c ms rfl HO0.out rfl HRa.out h1 (by omega) hsz ?_; intro g cap W4 hO4 hG4 hcap; have HO4 := Lib.hid hO4; have HB4 : Hid (Below W3.heap.size W3 W4) := HBa.out.grown hG4 HBa.out.size (fun j e => by cases e; exact Nat.le_refl _); have HMb := Lib.hid (K3.out.later HB4.out); clear hO4 hG4 hbs k0 kz ka kaz)
    have HMt := Lib.hid (fun m hm => (HT.out.nd m hm))
    have HTe := Lib.hid HT.out.eq
    have HTb := Lib.hid HT.out.big
    obtain ⟨W5, hW5⟩ : ∃ W5, W4.alloc (.cells #[.slice (some ⟨g, 0, none⟩) n cap] 24) = W5 := ⟨_, rfl⟩
    rw [hW5]
    have HB5 : Hid (Below W3.heap.size W3 W5) := by rw [← hW5]; exact HB4.out.alloc HB4.out.size _
    have HO5 : Hid (OwnT W5 W3.heap.size g cap n (chgd dualM ms 0)) := by rw [← hW5, chgd_zero]; exact ⟨HO4.out.1.alloc _, HO4.out.2⟩
    obtain ⟨D, hD⟩ : ∃ D, W4.heap.size = D := ⟨_, rfl⟩
    rw [hD]
    have K5 : Hid (Blk W5 D 24 #[.slice (some ⟨g, 0, none⟩) n cap]) := by rw [← hW5]; exact Blk.new _ _ _ hD.symm
    have hgD : g ≠ D := by have := HO4.out.lt.2; omega
    have HmL : Hid (ms.length = n) := HO4.out.2
    clear hW5 HO4 HB4 HMb HBa HO0 HRa hsz hD
    go_loopw [10, 11] (fun i _ wr => ∃ k : Nat, k ≤ n ∧ i = .int .i64 k ∧ OwnT wr W3.heap.size g cap n (chgd dualM ms k) ∧ Blk wr D 24 #[.slice (some ⟨g, 0, none⟩) n cap] ∧ Below W3.heap.size W3 wr) (fun i _ _ => n - (intOf i).toNat)
    case atStart => exact ⟨0, Nat.zero_le _, rfl, HO5.out, K5.out, HB5.out⟩
    case round =>
      obtain ⟨k, hk, rfl, hO, hK, hB⟩ := hrel
      have HO := Lib.hid hO; have HK := Lib.hid hK; have HB := Lib.hid hB
      clear hO hK hB
      have h40 := HN40.out
      have d0 := HK.out.cell (i := 0) rfl
      have dz := HK.out.lt
      by_cases hlt : k < n
      · have hkn : (k : Int) < (n : Int) := by omega
        obtain ⟨m, hm⟩ : ∃ m, ms[k]? = some m := ⟨_, List.getElem?_eq_getElem (by have := HmL.out; omega)⟩
        have HM := Lib.hid hm
        have c1 : wr.cell? ⟨g, k * 5 + 1, none⟩ = some (.int .i64 m.nd.kind) := HO.out.cell (chgd_get _ hm) rfl
        have c2 : wr.cell? ⟨g, k * 5 + 2, none⟩ = some (.slice m.A m.nd.ins.length m.c) := HO.out.cell (chgd_get _ hm) rfl
        have c3 : wr.cell? ⟨g, k * 5 + 3, none⟩ = some (.int .i64 m.nd.cnt) := HO.out.cell (chgd_get _ hm) rfl
        have gz := HO.out.lt.2
        have f1 := HO.out.froz (k * 5 + 1)
        have f3 := HO.out.froz (k * 5 + 3)
        by_cases h2 : m.nd.kind = 2
        · have b2 : (m.nd.kind == 2) = true := by simpa using h2
          have HS := Lib.hid (HO.out.set (chgd_get dualM HM.out) (j := 1) (u := .int .i64 3) (m' := dualM m) (by decide) (by unfold dualM; rw [if_pos h2]; rfl))
          rw [chgd_set dualM HM.out] at HS
          have HK2 : Hid (Blk (wr.setCell ⟨g, k * 5 + 1, none⟩ (.int .i64 3)) D 24 #[.slice (some ⟨g, 0, none⟩) n cap]) := HK.out.far (p := ⟨g, _, none⟩) (Ne.symm hgD) _
          have HB2 : Hid (Below W3.heap.size W3 (wr.setCell ⟨g, k * 5 + 1, none⟩ (.int .i64 3))) := HB.out.grown HS.out.2 HB.out.size (fun j e => by cases e; exact HO.out.lt.1)
          clear hm
          go_wp2_with fail
          go_roundw
          case rel => exact ⟨k + 1, by omega, by go_num, HS.out.1, HK2.out, HB2.out⟩
          case measure => simp [intOf]; omega
        by_cases h3 : m.nd.kind = 3
        · have b2 : (m.nd.kind == 2) = false := by simpa using h2
          have b3 : (m.nd.kind == 3) = true := by simpa using h3
          have HS := Lib.hid (HO.out.set (chgd_get dualM HM.out) (j := 1) (u := .int .i64 2) (m' := dualM m) (by decide) (by unfold dualM; rw [if_neg h2, if_pos h3]; rfl))
          rw [chgd_set dualM HM.out] at HS
          have HK2 : Hid (Blk (wr.setCell ⟨g, k * 5 + 1, none⟩ (.int .i64 2)) D 24 #[.slice (some ⟨g, 0, none⟩) n cap]) := HK.out.far (p := ⟨g, _, none⟩) (Ne.symm hgD) _
          have HB2 : Hid (Below W3.heap.size W3 (wr.setCell ⟨g, k * 5 + 1, none⟩ (.int .i64 2))) := HB.out.grown HS.out.2 HB.out.size (fun j e => by cases e; exact HO.out.lt.1)
          clear hm
          go_wp2_with fail
          go_roundw
          case rel => exact ⟨k + 1, by omega, by go_num, HS.out.1, HK2.out, HB2.out⟩
          case measure => simp [intOf]; omega
        have b2 : (m.nd.kind == 2) = false := by simpa using h2
        have b3 : (m.nd.kind == 3) = false := by simpa using h3
        have hok : NdOk t k m.nd := HT'.out.nd k m.nd (by rw [← HTe.out, List.getElem?_map, hm]; exact rfl)
        by_cases h4 : m.nd.kind = 4
        · have b4 : (m.nd.kind == 4) = true := by simpa using h4
          have hl10 := hok.l10
          obtain ⟨hc1, hc2⟩ := hok.c4 h4
          have HS := Lib.hid (HO.out.set (chgd_get dualM HM.out) (j := 3) (u := .int .i64 ((m.nd.ins.length : Int) + 1 - m.nd.cnt)) (m' := dualM m) (by decide) (by unfold dualM; rw [if_neg h2, if_neg h3, if_pos h4]; rfl))
          rw [chgd_set dualM HM.out] at HS
          have HK2 : Hid (Blk (wr.setCell ⟨g, k * 5 + 3, none⟩ (.int .i64 ((m.nd.ins.length : Int) + 1 - m.nd.cnt))) D 24 #[.slice (some ⟨g, 0, none⟩) n cap]) := HK.out.far (p := ⟨g, _, none⟩) (Ne.symm hgD) _
          have HB2 : Hid (Below W3.heap.size W3 (wr.setCell ⟨g, k * 5 + 3, none⟩ (.int .i64 ((m.nd.ins.length : Int) + 1 - m.nd.cnt)))) := HB.out.grown HS.out.2 HB.out.size (fun j e => by cases e; exact HO.out.lt.1)
          clear hm hok
          go_wp2_with fail
          go_region
          go_wp2_with fail
          go_roundw
          case rel => exact ⟨k + 1, by omega, by go_num, ⟨HS.out.1.1, HS.out.1.2⟩, HK2.out, HB2.out.drew⟩
          case measure => simp [intOf]; omega
        · have b4 : (m.nd.kind == 4) = false := by simpa using h4
          have HS := Lib.hid (chgd_same dualM HM.out (by unfold dualM; rw [if_neg h2, if_neg h3, if_neg h4]))
          clear hm hok
          go_wp2_with fail
          go_roundw
          case rel => exact ⟨k + 1, by omega, by go_num, by rw [HS.out]; exact HO.out, HK.out, HB.out⟩
          case measure => simp [intOf]; omega
      · obtain rfl : n = k := by omega
        have hO := HO.out
        have e := chgd_all dualM ms
        rw [HmL.out] at e
        rw [e] at hO
        obtain ⟨hT5, hcap5⟩ := hO.tree (fun m hm => by
          obtain ⟨m0, hm0, rfl⟩ := List.mem_map.1 hm
          exact dualM_r ((HMt.out m0 hm0).below (HB3.out.trans (HB.out.mono HB3.out.size)))) HTb.out
        have e2 : (ms.map dualM).map (·.nd) = dualT t := by
          unfold dualT
          rw [← HTe.out, List.map_map, List.map_map]
          exact List.map_congr_left fun m _ => dualM_nd m
        rw [e2] at hT5
        have HT5 := Lib.hid hT5
        have HB35 : Hid (Below w.heap.size w wr) := HB3.out.trans (HB.out.mono HB3.out.size)
        have HLa := Lib.hid (HLs2.out.below HB.out)
        have HLb := Lib.hid (HLs3.out.below HB.out)
        clear hO e e2 hT5 HO HMt HTe HO5 HB5 K5
        go_wp2_with fail
        refine (Causes_any (dualT t) y (some ⟨g, 0, none⟩) n cap _ wr HT5.out hcap5).mono ?_
        rintro e W6 ⟨v6, cs6, rfl, hr6, hcs6, hb6⟩
        rw [HDl.out.1] at hcs6 ⊢
        obtain ⟨V6, cv6, rfl, hLs6⟩ := hr6.lsm (HLg.out cs6 hcs6)
        rw [hcs6] at hLs6
        have HK6 := Lib.hid (HK.out.later hb6)
        have HT6 := Lib.hid (HT5.out.below hb6)
        have HB6 : Hid (Below w.heap.size w W6) := HB35.out.trans (hb6.mono HB35.out.size)
        have HLa6 := Lib.hid (HLa.out.below hb6)
        have HLb6 := Lib.hid (HLb.out.below hb6)
        have HLs6 := Lib.hid hLs6
        clear hr6 hcs6 hb6 hLs6 d0 dz HK HT5 HB35 HLa HLb
        dsimp only
        have d0 := HK6.out.cell (i := 0) rfl
        have dz := HK6.out.lt
        go_wp2_with fail
        refine (Guards_any (dualT t) y (some ⟨g, 0, none⟩) n cap _ W6 HT6.out hcap5).mono ?_
        rintro e W7 ⟨v7, cs7, rfl, hr7, hcs7, hb7⟩
        rw [HDl.out.2] at hcs7 ⊢
        obtain ⟨V7, cv7, rfl, hLs7⟩ := hr7.lsm (HLc.out cs7 hcs7)
        rw [hcs7] at hLs7
        have HB7 : Hid (Below w.heap.size w W7) := HB6.out.trans (hb7.mono HB6.out.size)
        have HLa7 := Lib.hid (HLa6.out.below hb7)
        have HLb7 := Lib.hid (HLb6.out.below hb7)
        have HLc7 := Lib.hid (HLs6.out.below hb7)
        have HLd7 := Lib.hid hLs7
        have hla := HLa7.out.len
        have hlb := HLb7.out.len
        have hsm := sameSets_any _ _ V2 cs.length cv2 _ V7 cs7.length cv7 _ W7 HLa7.out HLd7.out (by have := HSh.out.2; omega)
        rw [show decide ((causesT t y).1 = (causesT t y).1) = true from decide_eq_true rfl] at hsm
        have HSm1 := Lib.hid hsm
        clear hsm
        clear hr7 hcs7 hb7 hLs7 d0 dz
        dsimp only
        go_wp2_with fail
        refine HSm1.out.mono ?_
        rintro e W8 ⟨rfl, hb8⟩
        have HB8 : Hid (Below w.heap.size w W8) := HB7.out.trans (hb8.mono HB7.out.size)
        have hsm := sameSets_any _ _ V3 gs.length cv3 _ V6 cs6.length cv6 _ W8 (HLb7.out.below hb8) (HLc7.out.below hb8) (by have := HSh.out.1; omega)
        rw [show decide ((guardsT t y).1 = (guardsT t y).1) = true from decide_eq_true rfl] at hsm
        have HSm2 := Lib.hid hsm
        clear hb8 hsm
        go_wp2_with fail
        refine HSm2.out.mono ?_
        rintro e W9 ⟨rfl, hb9⟩
        have HB9 : Hid (Below w.heap.size w W9) := HB8.out.trans (hb9.mono HB8.out.size)
        clear hb9
        go_wp2_with fail
        refine (Awake_any _).mono ?_
        rintro e W10 ⟨rfl, hb10⟩
        have HB10 : Hid (Below w.heap.size w W10) := HB9.out.trans (hb10.mono HB9.out.size)
        clear hb10
        go_wp2_with fail
        go_ret
        exact ⟨rfl, HB10.out⟩
  · have hq : (askT t y != 0) = true := by simpa using ha
    have he : (askT t y == askT t y) = true := by simp
    generalize askT t y = X at *
    clear ha
    go_wp2_with fail
    refine (Awake_any _).mono ?_
    rintro e W10 ⟨rfl, hb10⟩
    have HB10 : Hid (Below w.heap.size w W10) := HB3.out.trans (hb10.mono HB3.out.size)
    clear hb10
    go_wp2_with fail
    go_ret
    exact ⟨rfl, HB10.out⟩
end Go.Proofs.Ytadldndpphdmpaa
