/- FailureNow returns true. -/
import Derived.Test.YtadldndpphdmpaaHn
import Derived.Test.YtadldndpphdmpaaS4
import Derived.Test.YtadldndpphdmpaaP5
import Derived.Test.YtadldndpphdmpaaS3
namespace Go.Proofs.Ytadldndpphdmpaa
open Go.RowKit Go.Shelf

theorem two_box2 (w : World) (cs ds : Array Value) (t1 t2 : TypeId) : ∀ W, (w.alloc (.cells cs t1)).alloc (.cells ds t2) = W →
    Below w.heap.size w W ∧ Blk W w.heap.size t1 cs ∧ Blk W (w.heap.size + 1) t2 ds := by
  rintro W rfl
  exact ⟨((Below.refl _ w).alloc (Nat.le_refl _) _).alloc (by simp) _, (Blk.new _ _ _ rfl).alloc _, Blk.new _ _ _ (by simp)⟩
theorem canon_lenC {n hi : Int} : ∀ (l : List Sp) (lo : Int), Canon n l → (∀ s ∈ l, lo ≤ s.a ∧ s.b ≤ hi) → l.length ≤ (hi - lo).toNat
  | [], _, _, _ => by simp
  | s :: l, lo, h, hb => by
    have h1 := hb s (List.mem_cons_self ..)
    have h2 := (h.one s (List.mem_cons_self ..)).2
    have h3 := canon_lenC l (lo + 1) h.tail fun u hu => by
      have h4 := h.behind u hu
      exact ⟨by omega, (hb u (List.mem_cons_of_mem _ hu)).2⟩
    rw [List.length_cons]
    omega
theorem run_len9 {t : List Nd} (hT : TrOk t) {l : List Sp} (h : spErr t l = 0) {N : Int} (hN : N ≤ 400) {i : Nat} (hi : i < t.length) : (spL t (ownR l N) i).length ≤ 400 := by
  rw [spL_fil]
  obtain ⟨h1, h2, _⟩ := spL_spec hT (fun i _ => ownR_inR h (N := N) i) i hi
  have := canon_lenC _ 0 h1 (hi := N) fun s hs => ⟨(h2 s hs).1, (h2 s hs).2.2⟩
  omega
def nohM (m : NdM) : NdM := m.holdTo 0
theorem nohM_nd (ms : List NdM) : (ms.map nohM).map (·.nd) = nohT (ms.map (·.nd)) := by
  unfold nohT
  rw [List.map_map, List.map_map]
  rfl
theorem nohM_r {w : World} {m : NdM} (h : NdR w m) : NdR w (nohM m) := ⟨h.ins, h.len, h.cap, h.nam⟩

theorem own_none (v : Value) : v.ownBlock = none ∨ v.ownBlock ≠ none := by
  cases v.ownBlock with
  | none => exact .inl rfl
  | some _ => exact .inr (by simp)

set_option maxRecDepth 100000 in
set_option maxHeartbeats 8000000 in
theorem FailureNow_any (t : List Nd) (l : List Sp) (x0 x1 : Int) (A : Option Addr) (n c : Nat) (ms : List NdM) (L : Option Addr) (cl : Nat) (w : World) (hT : TrM w t A n ms) (hc : n ≤ c) (hL : RdS w L l.length l) (hl : l.length ≤ 1000000000000000) :
    Calls Try.prog 12 #[.agg #[.slice A n c], .slice L l.length cl, .agg #[.int .i64 x0, .int .i64 x1]] w fun e w' => e = .returned (.bool true) ∧ Below w.heap.size w w' := by
  obtain ⟨W1, hW1⟩ : ∃ W1, (w.alloc (.cells #[.slice A n c] 24)).alloc (.cells #[.int .i64 x0, .int .i64 x1] 36) = W1 := ⟨_, rfl⟩
  obtain ⟨b1, b2, b3⟩ := two_box2 w _ _ _ _ W1 hW1
  have HB1 := Lib.hid b1; have K1 := Lib.hid b2; have K2 := Lib.hid b3
  have HSz : Hid (W1.heap.size = w.heap.size + 2) := by rw [← hW1]; show _ = _; simp
  have C1 := Lib.hid (check_any t A n c ms W1 (hT.below b1) hc)
  have HL := Lib.hid hL
  have HT := Lib.hid hT
  have HW1 := Lib.hid hW1
  have HChk := Lib.hid (fun h => (chkT_ok (t := t)).1 h)
  clear hW1 hT hL b1 b2 b3
  generalize chkT t = X at *
  obtain ⟨X1, f⟩ := X
  dsimp only at *
  go_enter Try.func12, Try.ntmps12
  have k0 := K1.out.cell (i := 0) rfl
  have kz := K1.out.lt
  go_wp2_with fail
  rw [HW1.out]
  go_wp2_with fail
  refine C1.out.mono ?_
  rintro e W2 ⟨rfl, hb2⟩
  have HB2 : Hid (Below w.heap.size w W2) := HB1.out.trans (hb2.mono HB1.out.size)
  have HM1 := Lib.hid (K1.out.later hb2)
  have HM2 := Lib.hid (K2.out.later hb2)
  have HSz2 : Hid (w.heap.size + 2 ≤ W2.heap.size) := by have := hb2.size; have := HSz.out; show _ ≤ _; omega
  clear hb2 HW1 K1 K2 k0 kz C1 HSz
  by_cases hf : f = 0
  · have hok := HChk.out hf
    subst hf
    have HOk := Lib.hid hok
    have h40 : n ≤ 40 := by have := hok.l40; have := HT.out.len; omega
    have h1 : 1 ≤ n := by have := hok.l1; have := HT.out.len; omega
    obtain ⟨_, ad, _, hAd, _, _⟩ := HT.out.get (i := 0) (by omega)
    subst hAd
    clear hok HChk
    have k0 := HM1.out.cell (i := 0) rfl
    have kz := HM1.out.lt
    have kf := HM1.out.frozen 0
    have hbs := buildN
    have HO0 : Hid ((W2.alloc (.cells #[] 53)).ownsRow W2.heap.size 53 5 (.slice (some ⟨W2.heap.size, 0, none⟩) 0 0) 0 []) := own_empty W2 W2.heap.size (Nat.le_refl _) 53 5
    have HBa : Hid (Below W2.heap.size W2 (W2.alloc (.cells #[] 53))) := (Below.refl _ W2).alloc (Nat.le_refl _) _
    have HRa : Hid (Rd NdM.enc 5 (W2.alloc (.cells #[] 53)) (some ad) n ms) := (HT.out.below (HB2.out.trans (HBa.out.mono HB2.out.size))).rd
    have hsz : W2.heap.size ≤ (W2.alloc (.cells #[] 53)).heap.size := HBa.out.size
    have HMa := Lib.hid (HM1.out.later HBa.out)
    have ka := HMa.out.cell (i := 0) rfl
    have kaz := HMa.out.lt
    have kaf := HMa.out.frozen 0
    go_wp2_with (at_builtin; refine wpList_copy_nodes rfl _ _ rfl W2.heap.size W2.heap.size ad n c ms rfl HO0.out rfl HRa.out h1 (by omega) hsz ?_; intro g cap W4 hO4 hG4 hcap; have HO4 := Lib.hid hO4; have HB4 : Hid (Below W2.heap.size W2 W4) := HBa.out.grown hG4 HBa.out.size (fun j e => by cases e; exact Nat.le_refl _); have HMb := Lib.hid (HM1.out.later HB4.out); have kb := HMb.out.cell (i := 0) rfl; have kbz := HMb.out.lt; have kbf := HMb.out.frozen 0; clear hO4 hG4 hbs k0 kz kf ka kaz kaf HMa)
    have HMt := Lib.hid (fun m hm => (HT.out.nd m hm))
    have HTe := Lib.hid HT.out.eq
    have HTb := Lib.hid HT.out.big
    have HLen := Lib.hid HT.out.len
    have HH0 := Lib.hid (noh_hold (t := t))
    obtain ⟨D, hD⟩ : ∃ D, w.heap.size = D := ⟨_, rfl⟩
    rw [hD] at HMb HM1 HM2 HSz2 ⊢
    obtain ⟨W5, hW5⟩ : ∃ W5, W4.setCell ⟨D, 0, none⟩ (.slice (some ⟨g, 0, none⟩) n cap) = W5 := ⟨_, rfl⟩
    rw [hW5]
    have hgz := HO4.out.lt
    have hgD : g ≠ D := by have := HSz2.out; omega
    have HO5 : Hid (OwnT W5 W2.heap.size g cap n (chgd nohM ms 0)) := by
      rw [← hW5, chgd_zero]
      exact ⟨HO4.out.1.kept (grown_set W4 ⟨D, 0, none⟩ _) (.inr (by simpa [Value.ownBlock] using hgD)), HO4.out.2⟩
    have K5 : Hid (Blk W5 D 24 #[.slice (some ⟨g, 0, none⟩) n cap]) := by rw [← hW5]; exact HMb.out.set 0 _
    have K6 : Hid (Blk W5 (D + 1) 36 #[.int .i64 x0, .int .i64 x1]) := by rw [← hW5]; exact (HM2.out.later HB4.out).far (p := ⟨D, 0, none⟩) (by show D + 1 ≠ D; omega) _
    have HB5 : Hid (Below w.heap.size w W5) := by
      rw [← hW5]
      exact (HB2.out.trans (HB4.out.mono HB2.out.size)).grown (grown_set W4 ⟨D, 0, none⟩ _) (HB2.out.trans (HB4.out.mono HB2.out.size)).size (fun j e => by cases e; exact Nat.le_of_eq hD)
    have hsz5 : W2.heap.size ≤ W5.heap.size := by rw [← hW5]; have := HB4.out.size; simpa using this
    have HmL : Hid (ms.length = n) := HO4.out.2
    have HN40 := Lib.hid h40
    clear hW5 HO4 HB4 HMb HM1 HM2 HBa HO0 HRa hsz kb kbz kbf
    go_loopw [9] (fun i wr => ∃ k : Nat, k ≤ n ∧ i = .int .i64 k ∧ OwnT wr W2.heap.size g cap n (chgd nohM ms k) ∧ Below W2.heap.size W5 wr) (fun i _ => n - (intOf i).toNat)
    case atStart => exact ⟨0, Nat.zero_le _, rfl, HO5.out, Below.refl _ _⟩
    case round =>
      obtain ⟨k, hk, rfl, hO, hB⟩ := hrel
      have HO := Lib.hid hO; have HB := Lib.hid hB
      clear hO hB
      have h40 := HN40.out
      have hD2 := HSz2.out
      have HK := Lib.hid (K5.out.below HB.out (by omega))
      have d0 := HK.out.cell (i := 0) rfl
      have dz := HK.out.lt
      by_cases hlt : k < n
      · have hkn : (k : Int) < (n : Int) := by omega
        obtain ⟨m, hm⟩ : ∃ m, ms[k]? = some m := ⟨_, List.getElem?_eq_getElem (by have := HmL.out; omega)⟩
        have HM := Lib.hid hm
        have c4 : wr.cell? ⟨g, k * 5 + 4, none⟩ = some (.int .i64 m.nd.hold) := HO.out.cell (chgd_get _ hm) rfl
        have gz := HO.out.lt.2
        have f4 := HO.out.froz (k * 5 + 4)
        have HS := Lib.hid (HO.out.set (chgd_get nohM HM.out) (j := 4) (u := .int .i64 0) (m' := nohM m) (by decide) rfl)
        rw [chgd_set nohM HM.out] at HS
        have HB2' : Hid (Below W2.heap.size W5 (wr.setCell ⟨g, k * 5 + 4, none⟩ (.int .i64 0))) := HB.out.grown HS.out.2 (Nat.le_trans hsz5 HB.out.size) (fun j e => by cases e; exact HO.out.lt.1)
        clear hm
        go_wp2_with fail
        go_roundw
        case rel => exact ⟨k + 1, by omega, by go_num, HS.out.1, HB2'.out⟩
        case measure => simp [intOf]; omega
      · obtain rfl : n = k := by omega
        have hO := HO.out
        have e := chgd_all nohM ms
        rw [HmL.out] at e
        rw [e] at hO
        have HBw : Hid (Below w.heap.size w wr) := HB5.out.trans (HB.out.mono (by have := HB2.out.size; omega))
        obtain ⟨hT6, hcap6⟩ := hO.tree (fun m hm => by
          obtain ⟨m0, hm0, rfl⟩ := List.mem_map.1 hm
          exact nohM_r ((HMt.out m0 hm0).below HBw.out)) HTb.out
        rw [nohM_nd, HTe.out] at hT6
        have HK2 := Lib.hid (K6.out.below HB.out (by omega))
        obtain ⟨W6, rfl⟩ : ∃ W6 : World, W6 = wr := ⟨_, rfl⟩
        have HDb : Hid (D = w.heap.size) := hD.symm
        obtain ⟨ga, hga⟩ : ∃ ga : Addr, (⟨g, 0, none⟩ : Addr) = ga := ⟨_, rfl⟩
        rw [hga] at hT6 HK d0
        have hTo := noh_tr HOk.out
        generalize nohT t = T at *
        have HT6 := Lib.hid hT6
        have HTo := Lib.hid hTo
        have hT0 : ∀ x ∈ T, x.hold = 0 := HH0.out
        have HTl : Hid (T.length = n) := hT6.len
        have HRn := Lib.hid (Run_any T l x0 (some ga) n cap (ms.map nohM) L cl W6 hT6 hcap6 (HL.out.below HBw.out) hl)
        have HErr := Lib.hid (fun h => runT_err (t := T) (l := l) (N := x0) h)
        have HOkR := Lib.hid (fun h => runT_ok (t := T) (l := l) (N := x0) h)
        have HNow := Lib.hid (fun h2 (hK : 0 ≤ x1) => now_ok hTo hT0 (l := l) h2 (N := x0) (K := x1) hK)
        have p0 := HK2.out.cell (i := 0) rfl
        have pz := HK2.out.lt
        clear hT6 hTo hT0 hO e HMt HTe HOk hga HL HO HO5 K5 K6 HB5 HmL HSz2 hgD hgz hD2 hsz5 HLen hD HH0
        generalize runT T l x0 = Y at *
        obtain ⟨Y1, f⟩ := Y
        dsimp only at *
        go_wp2_with fail
        refine HRn.out.mono ?_
        rintro e W7 ⟨v, ps, rfl, hRo, hps, hb7⟩
        have HB7 : Hid (Below w.heap.size w W7) := HBw.out.trans (hb7.mono HBw.out.size)
        have HM1 := Lib.hid (HK.out.later hb7)
        have HM2 := Lib.hid (HK2.out.later hb7)
        have HT7 := Lib.hid (HT6.out.below hb7)
        obtain ⟨A5, c5, e5, hsps⟩ := hRo.sps
        subst e5
        have HSps := Lib.hid hsps; have HPs := Lib.hid hps
        clear hb7 hRo hps hsps HK HK2 p0 pz d0 dz HRn HT6 HB
        have r0 := HM1.out.cell (i := 0) rfl
        have rz := HM1.out.lt
        have p0 := HM2.out.cell (i := 0) rfl
        have p1 := HM2.out.cell (i := 1) rfl
        have pz := HM2.out.lt
        dsimp only
        by_cases hf : f = 0
        · obtain ⟨_, hl30, _, hN4, hsp, hX1⟩ := HOkR.out hf
          subst hf
          have HSp := Lib.hid hsp
          by_cases hx0 : x1 < 0
          · have b1 : decide (x1 < 0) = true := by simpa using hx0
            clear hx0
            go_wp2_with fail
            refine (Awake_any _).mono ?_
            rintro e W11 ⟨rfl, hb11⟩
            have HB11 : Hid (Below w.heap.size w W11) := HB7.out.trans (hb11.mono HB7.out.size)
            clear hb11
            go_wp2_with fail
            go_ret
            exact ⟨rfl, HB11.out⟩
          by_cases hx1 : x0 ≤ x1
          · have b0 : decide (x1 < 0) = false := by simpa using hx0
            have b1 : decide (x0 ≤ x1) = true := by simpa using hx1
            clear hx0 hx1
            go_wp2_with fail
            refine (Awake_any _).mono ?_
            rintro e W11 ⟨rfl, hb11⟩
            have HB11 : Hid (Below w.heap.size w W11) := HB7.out.trans (hb11.mono HB7.out.size)
            clear hb11
            go_wp2_with fail
            go_ret
            exact ⟨rfl, HB11.out⟩
          have b0 : decide (x1 < 0) = false := by simpa using hx0
          have b1 : decide (x0 ≤ x1) = false := by simpa using hx1
          have HX0 : Hid (0 ≤ x1) := by show _ ≤ _; omega
          have hln : ps.length = n := by
            have h := congrArg List.length HPs.out
            rw [hX1, List.length_map, List.length_map, List.length_range] at h
            rw [h]; exact HTl.out
          have HPn := Lib.hid hln
          have HGet : Hid (∀ i, i < n → ∀ sp, (ps.map (·.1))[i]? = some sp → sp = spL T (ownR l x0) i) := fun i hi sp hsp => by
            rw [HPs.out, hX1, List.getElem?_map, List.getElem?_range (by have := HTl.out; omega)] at hsp
            exact (Option.some.inj hsp).symm
          have HLn : Hid (∀ i, i < n → (spL T (ownR l x0) i).length ≤ 400) := fun i hi => run_len9 HTo.out hsp hN4 (by have := HTl.out; omega)
          have HNw := Lib.hid (HNow.out hsp HX0.out)
          have e3 : ((n : Int) != (n : Int)) = false := by simp
          clear hsp hX1 HOkR HErr HNow hx0 hx1
          rw [hln] at HSps ⊢
          clear hln
          go_wp2_with fail
          clear r0 rz e3 b0 b1 p0 p1 pz
          have HSB := Lib.hid (nowBk_succ T (ownR l x0) x1)
          have HSL := Lib.hid (nowLk_succ T (ownR l x0) x1)
          have HNl := Lib.hid (nowBk_len T (ownR l x0) x1)
          have HFB : Hid (nowBk T (ownR l x0) x1 n = nowB T (ownR l x0) x1) := by unfold nowBk nowB; rw [HTl.out]; exact rfl
          have HFL : Hid (nowLk T (ownR l x0) x1 n = nowL T (ownR l x0) x1) := by unfold nowLk nowL; rw [HTl.out]; exact rfl
          have HB0 : Hid (nowBk T (ownR l x0) x1 0 = []) := rfl
          have HL0 : Hid (nowLk T (ownR l x0) x1 0 = []) := rfl
          generalize nowBk T (ownR l x0) x1 = FB at *
          generalize nowLk T (ownR l x0) x1 = FL at *
          go_loopw [11, 12, 13] (fun va vb i wr => ∃ k : Nat, k ≤ n ∧ i = .int .i64 k ∧ wr.ownsRow W7.heap.size 3 1 va (FB k).length ((FB k).map (Value.int .i64)) ∧ wr.ownsRow W7.heap.size 3 1 vb (FL k).length ((FL k).map (Value.int .i64)) ∧ Apart2 va vb ∧ Below W7.heap.size W7 wr) (fun _ _ i _ => n - (intOf i).toNat)
          case atStart => exact ⟨0, Nat.zero_le _, rfl, by rw [HB0.out]; exact World.ownsRow_nil _ _ _ _, by rw [HL0.out]; exact World.ownsRow_nil _ _ _ _, Apart2.nil _, Below.refl _ _⟩
          case round =>
            obtain ⟨k, hk, rfl, hRa, hRb, hAp, hB⟩ := hrel
            have HRa := Lib.hid hRa; have HRb := Lib.hid hRb; have HAp := Lib.hid hAp; have HB := Lib.hid hB
            clear hRa hRb hAp hB
            obtain ⟨hn1, hn2⟩ := HNl.out k
            have h40 := HN40.out
            by_cases hlt : k < n
            · obtain ⟨sp, B, cB, sd, hsp, hA5, hcell, hrd⟩ := (HSps.out.below HB.out).get hlt
              have hspe := HGet.out k hlt sp hsp
              have hsl := HLn.out k hlt
              have hSB := HSB.out k
              have hSL := HSL.out k
              rw [← hspe] at hsl hSB hSL
              subst hA5
              obtain ⟨m, ad2, hm, hga, _, _⟩ := HT7.out.get hlt
              obtain rfl : ga = ad2 := Option.some.inj hga
              have hib : isBas T k = (m.nd.kind == 1) := isBas_kind hm
              rw [hib] at hSB
              have HQ : Hid (∀ W, Below W7.heap.size W7 W → W.cell? ⟨(ga.add (k * 5)).block, (ga.add (k * 5)).off + 1, none⟩ = some (.int .i64 m.nd.kind)) := fun W hW => by
                obtain ⟨m2, ad3, hm2, hga2, hAt, _⟩ := (HT7.out.below hW).get hlt
                obtain rfl : ga = ad3 := Option.some.inj hga2
                rw [hm] at hm2
                have hq := (hAt.five).2.1
                rw [← Option.some.inj hm2] at hq
                exact hq
              have HSBk := Lib.hid hSB; have HSLk := Lib.hid hSL
              have HRd := Lib.hid hrd; have HD0 := Lib.hid hcell
              have hkn : (k : Int) < (n : Int) := by omega
              have HBd : Hid (Below wr.heap.size wr wr.drew) := (Below.refl _ _).drew
              have HFl := Lib.hid (failed_any sp x1 B cB wr.drew (hrd.below HBd.out) (by omega))
              obtain ⟨i0, hi0, hz0, hz1, hz2⟩ := info_parts infoI
              have HI0 := Lib.hid hi0; have HZ0 := Lib.hid hz0; have HZ1 := Lib.hid hz1; have HZ2 := Lib.hid hz2
              clear hsp hspe hrd hcell hSB hSL hib hm hga hi0 hz0 hz1 hz2
              go_wp2_with fail
              have HS0 : Hid ((fun w' => ∃ u : Later wr, w' = u.w) wr.drew) := ⟨⟨wr.drew, HBd.out⟩, rfl⟩
              have y0 := later_cell HD0.out
              have y1 := later_cell ((HM2.out.later HB.out).cell (i := 1) rfl)
              refine wp_region_noPanic ?_
              refine wp_region_ord (fun w' => ∃ u : Later wr, w' = u.w) 6 (fun k => decide (k < 6)) (ordOf _ [0, 1, 2, 3, 4, 5, 6]) (by kernel_rfl) (by kernel_rfl) (ordOf_mem _ _) (fun _ _ _ _ _ h => h) ?_
              simp only [ordOf, List.filterMap_cons, List.filterMap_nil, List.getElem?_cons_zero, List.getElem?_cons_succ, Option.map_some]
              iterate 6 (refine ord_quiet rfl rfl rfl HS0.out ?_; intro K hK; go_big_quiet_op; go_big_quiet_on)
              clear y0 y1 HS0
              refine ord_op rfl ?_
              go_wp2_with fail
              refine HFl.out.mono ?_
              rintro e W8 ⟨rfl, hb8⟩
              have HBr : Hid (Below wr.heap.size wr W8) := below_of_drew hb8
              have HB8 : Hid (Below W7.heap.size W7 W8) := HB.out.trans (HBr.out.mono HB.out.size)
              have HRa8 := Lib.hid (HRa.out.kept (grown_of_below HBr.out none) (own_none _))
              have HRb8 := Lib.hid (HRb.out.kept (grown_of_below HBr.out none) (own_none _))
              clear hb8 HFl HRa HRb HRd HD0 HBd
              go_wp2_with fail
              refine mix_post (fun h => absurd h (by decide)) ?_
              refine ord_nil ?_
              refine NoPanic.normal ?_
              generalize cov sp x1 = cc at *
              cases cc
              · have hA : FB (k + 1) = FB k := by rw [HSBk.out]; simp
                have hL : FL (k + 1) = FL k := by rw [HSLk.out]; simp
                have HA := Lib.hid hA; have HLL := Lib.hid hL
                clear hA hL
                go_wp2_with fail
                go_roundw
                case rel => exact ⟨k + 1, by omega, by go_num, by rw [HA.out]; exact HRa8.out, by rw [HLL.out]; exact HRb8.out, HAp.out, HB8.out⟩
                case measure => simp [intOf]; omega
              · have hL : FL (k + 1) = FL k ++ [(k : Int)] := by rw [HSLk.out]; simp
                have HLL := Lib.hid hL
                have hi0 := HI0.out; have hz0 := HZ0.out; have hz1 := HZ1.out; have hz2 := HZ2.out
                clear hL
                by_cases hk1 : m.nd.kind = 1
                · have b1 : (m.nd.kind == 1) = true := by simpa using hk1
                  have hA : FB (k + 1) = FB k ++ [(k : Int)] := by rw [HSBk.out, b1]; simp
                  have HA := Lib.hid hA
                  clear hA
                  go_wp2_with (at_builtin; first | (refine wpList_append_one_at rfl _ _ 30 rfl W7.heap.size 3 i0 (.int .i64 0) 8 Try.underlying30 hi0 hz0 hz1 hz2 rfl _ _ _ rfl HRa9.out (.int .i64 k) W9.heap.size rfl rfl (by simp [Value.oneCell']) (by unfold maxLen; omega) (by omega) HB9.out.size ?_; intro va W10 hown' hgrow hat hsl; have HRa10 := Lib.hid hown'; have HRb10 := Lib.hid (HAp9.out.keep HRb9.out hgrow); have HAp10 := Lib.hid (HAp9.out.grow HRb9.out hat); have HB10 : Hid (Below W7.heap.size W7 W10) := HB9.out.grown hgrow HB9.out.size (fun r e => (HRa9.out.lt r e).1); obtain ⟨_, _, rfl⟩ := hsl; clear hown' hgrow hat) | (refine wpList_append_one_at rfl _ _ 30 rfl W7.heap.size 3 i0 (.int .i64 0) 8 Try.underlying30 hi0 hz0 hz1 hz2 rfl _ _ _ rfl HRb8.out (.int .i64 k) W8.heap.size rfl rfl (by simp [Value.oneCell']) (by unfold maxLen; omega) (by omega) HB8.out.size ?_; intro vb W9 hown' hgrow hat hsl; have HRb9 := Lib.hid hown'; have HRa9 := Lib.hid (HAp.out.symm.keep HRa8.out hgrow); have HAp9 := Lib.hid (HAp.out.symm.grow HRa8.out hat).symm; have HB9 : Hid (Below W7.heap.size W7 W9) := HB8.out.grown hgrow HB8.out.size (fun r e => (HRb8.out.lt r e).1); have q1 := HQ.out W9 HB9.out; have s0 := (HM1.out.later HB9.out).cell (i := 0) rfl; have sz := (HM1.out.later HB9.out).lt; obtain ⟨_, _, rfl⟩ := hsl; clear hown' hgrow hat))
                  go_roundw
                  case rel => exact ⟨k + 1, by omega, by go_num, by rw [HA.out, List.length_append, List.map_append]; exact HRa10.out, by rw [HLL.out, List.length_append, List.map_append]; exact HRb10.out, HAp10.out, HB10.out⟩
                  case measure => simp [intOf]; omega
                · have b1 : (m.nd.kind == 1) = false := by simpa using hk1
                  have hA : FB (k + 1) = FB k := by rw [HSBk.out, b1]; simp
                  have HA := Lib.hid hA
                  clear hA
                  go_wp2_with (at_builtin; refine wpList_append_one_at rfl _ _ 30 rfl W7.heap.size 3 i0 (.int .i64 0) 8 Try.underlying30 hi0 hz0 hz1 hz2 rfl _ _ _ rfl HRb8.out (.int .i64 k) W8.heap.size rfl rfl (by simp [Value.oneCell']) (by unfold maxLen; omega) (by omega) HB8.out.size ?_; intro vb W9 hown' hgrow hat hsl; have HRb9 := Lib.hid hown'; have HRa9 := Lib.hid (HAp.out.symm.keep HRa8.out hgrow); have HAp9 := Lib.hid (HAp.out.symm.grow HRa8.out hat).symm; have HB9 : Hid (Below W7.heap.size W7 W9) := HB8.out.grown hgrow HB8.out.size (fun r e => (HRb8.out.lt r e).1); have q1 := HQ.out W9 HB9.out; have s0 := (HM1.out.later HB9.out).cell (i := 0) rfl; have sz := (HM1.out.later HB9.out).lt; obtain ⟨_, _, rfl⟩ := hsl; clear hown' hgrow hat)
                  go_roundw
                  case rel => exact ⟨k + 1, by omega, by go_num, by rw [HA.out]; exact HRa9.out, by rw [HLL.out, List.length_append, List.map_append]; exact HRb9.out, HAp9.out, HB9.out⟩
                  case measure => simp [intOf]; omega
            · obtain rfl : n = k := by omega
              rw [HFB.out] at HRa hn1
              rw [HFL.out] at HRb hn2
              obtain ⟨Aa, ca, rfl, hIa, _, _⟩ := rdI_of_own HRa.out rfl
              obtain ⟨Ab, cb, rfl, hIb, _, _⟩ := rdI_of_own HRb.out rfl
              have HIb := Lib.hid hIb
              have hE := Effects_any T (nowB T (ownR l x0) x1) (some ga) n cap _ Aa ca wr (HT7.out.below HB.out) hcap6 hIa (by omega)
              rw [HNw.out] at hE
              have HE := Lib.hid hE
              have s0 := (HM1.out.later HB.out).cell (i := 0) rfl
              have sz := (HM1.out.later HB.out).lt
              clear hIa hIb hE HRa HRb
              go_wp2_with fail
              refine HE.out.mono ?_
              rintro e W9 ⟨v9, rfl, hr9, hb9⟩
              obtain ⟨A9, c9, rfl, hI9, _, _⟩ := rdI_of_own hr9 rfl
              have HB9 : Hid (Below W7.heap.size W7 W9) := HB.out.trans (hb9.mono HB.out.size)
              dsimp only at hI9
              have hI := ints_any _ _ A9 _ c9 Ab _ cb W9 hI9 (HIb.out.below hb9) (by omega)
              rw [show decide (nowL T (ownR l x0) x1 = nowL T (ownR l x0) x1) = true from decide_eq_true rfl] at hI
              have HI := Lib.hid hI
              clear hr9 hb9 hI9 hI s0 sz HE HIb
              dsimp only
              go_wp2_with fail
              refine HI.out.mono ?_
              rintro e W10 ⟨rfl, hb10⟩
              have HB10 : Hid (Below w.heap.size w W10) := HB7.out.trans ((HB9.out.trans (hb10.mono HB9.out.size)).mono HB7.out.size)
              clear hb10
              go_wp2_with fail
              refine (Awake_any _).mono ?_
              rintro e W11 ⟨rfl, hb11⟩
              have HB11 : Hid (Below w.heap.size w W11) := HB10.out.trans (hb11.mono HB10.out.size)
              clear hb11
              go_wp2_with fail
              go_ret
              exact ⟨rfl, HB11.out⟩
        · have hfb : (f != 0) = true := by simpa using hf
          clear hf
          go_wp2_with fail
          refine (Awake_any _).mono ?_
          rintro e W11 ⟨rfl, hb11⟩
          have HB11 : Hid (Below w.heap.size w W11) := HB7.out.trans (hb11.mono HB7.out.size)
          clear hb11
          go_wp2_with fail
          go_ret
          exact ⟨rfl, HB11.out⟩
  · have hfb : (f != 0) = true := by simpa using hf
    clear hf
    go_wp2_with fail
    refine (Awake_any _).mono ?_
    rintro e W7 ⟨rfl, hb7⟩
    have HB7 : Hid (Below w.heap.size w W7) := HB2.out.trans (hb7.mono HB2.out.size)
    clear hb7
    go_wp2_with fail
    go_ret
    exact ⟨rfl, HB7.out⟩
end Go.Proofs.Ytadldndpphdmpaa
