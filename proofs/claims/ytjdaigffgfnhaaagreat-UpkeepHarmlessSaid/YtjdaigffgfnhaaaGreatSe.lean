import Derived.Test.YtjdaigffgfnhaaaGreatW3
namespace Go.Proofs.YtjdaigffgfnhaaaGreat
open Go.RowKit

/-- An array of 365 bools, of which the first k are told by g. -/
def seaA (g : Nat → Bool) (k : Nat) : Array Value := ((List.range 365).map fun i => Value.bool (decide (i < k) && g i)).toArray
theorem zero109 : Tryz.zeroCells153 = ((List.range 365).map fun _ => Value.bool false).toArray := by kernel_rfl
theorem seaA_zero (g : Nat → Bool) : Tryz.zeroCells153 = seaA g 0 := by
  have e : seaA g 0 = ((List.range 365).map fun _ => Value.bool false).toArray := by unfold seaA; simp
  exact zero109.trans e.symm
theorem seaA_size (g : Nat → Bool) (k : Nat) : (seaA g k).size = 365 := by unfold seaA; simp
theorem seaA_get (g : Nat → Bool) (k i : Nat) (h : i < 365) : (seaA g k)[i]? = some (Value.bool (decide (i < k) && g i)) := by
  unfold seaA; simp [h]
theorem seaA_set (g : Nat → Bool) (k : Nat) (h : k < 365) : (seaA g k).setIfInBounds k (.bool (g k)) = seaA g (k + 1) := by
  apply Array.ext_getElem?
  intro i
  by_cases hi : i < 365
  · rw [seaA_get g (k + 1) i hi, Array.getElem?_setIfInBounds, seaA_get g k i hi, seaA_size]
    by_cases e : k = i
    · subst e; simp [h]
    · rw [if_neg e]
      have e1 : decide (i < k) = decide (i < k + 1) := by simp only [decide_eq_decide]; omega
      rw [e1]
  · rw [Array.getElem?_eq_none (by rw [Array.size_setIfInBounds, seaA_size]; omega), Array.getElem?_eq_none (by rw [seaA_size]; omega)]

theorem cmp_gt {a b : Int × Int} : decide (0 < cmpF a b) = gtB a b := by
  unfold cmpF gtB Lib.compareInt
  by_cases h1 : a.1 * b.2 < b.1 * a.2
  · rw [if_pos h1]; simp; omega
  · rw [if_neg h1]
    by_cases h2 : a.1 * b.2 > b.1 * a.2
    · rw [if_pos h2]; simp; omega
    · rw [if_neg h2]; simp; omega

theorem cell_far {w : World} {p q : Addr} {u v : Value} (hne : q.block ≠ p.block) (h : w.cell? q = some v) : (w.setCell p u).cell? q = some v :=
  (World.cell?_setCell_other w p q u (fun e => hne (by rw [e]))).trans h

theorem blk_setCells {b : Nat} {t : TypeId} {cs : Array Value} : ∀ (vs : List Value) (o : Nat) (w : World), Blk w b t cs → (∀ j v, vs[j]? = some v → cs[o + j]? = some v) → Blk (w.setCells b o vs) b t cs
  | [], _, _, h, _ => h
  | v :: r, o, w, h, hv => by
    have h0 := hv 0 v rfl
    have e : cs.setIfInBounds o v = cs := by
      apply Array.ext_getElem?
      intro i
      rw [Array.getElem?_setIfInBounds]
      by_cases hi : o = i
      · subst hi
        rw [if_pos rfl]
        rw [Nat.add_zero] at h0
        rw [if_pos (Array.getElem?_eq_some_iff.1 h0).1, h0]
      · rw [if_neg hi]
    have h1 := h.set o v
    rw [e] at h1
    exact blk_setCells r (o + 1) _ h1 (fun j u hu => by have := hv (j + 1) u (by simpa using hu); rwa [show o + 1 + j = o + (j + 1) by omega])
theorem below_setCells {b B : Nat} {a : World} (hB : B ≤ b) : ∀ (vs : List Value) (o : Nat) (w : World), Below B a w → Below B a (w.setCells b o vs)
  | [], _, _, h => h
  | v :: r, o, _, h => below_setCells hB r (o + 1) _ (h.setCell (p := ⟨b, o, none⟩) hB v)
theorem seaA_one (g : Nat → Bool) (k : Nat) : (seaA g k).all (·.oneCell') = true := by
  rw [Array.all_eq_true]
  intro i hi
  have h1 := seaA_get g k i (by rw [seaA_size] at hi; exact hi)
  rw [Array.getElem?_eq_getElem hi] at h1
  rw [Option.some.inj h1]
  rfl
theorem info109 : (Tryz.prog.info? 153).map (·.size) = some 365 := by kernel_rfl

set_option maxRecDepth 100000 in
set_option maxHeartbeats 600000 in
theorem season_any (r : Rec) (wd lvl : Int) (al : Int × Int) (A : Option Addr) (len c : Nat) (w : World) (hR : RecOK r) (hr : RdH w A len r.highs) (d0 : 1 ≤ wd) (d1 : wd ≤ 365) (a0 : 0 ≤ al.1) (a1 : al.1 ≤ 1000) (a2 : 0 ≤ al.2) (a3 : al.2 ≤ 1000) :
    Calls Tryz.prog 68 #[.agg #[.int .i64 r.first, .int .i64 r.years, .slice A len c], .int .i64 wd, .int .i64 lvl, .agg #[.int .i64 al.1, .int .i64 al.2]] w fun e w' => e = .returned (.agg (seaA (fun i => seasonB r wd lvl al i) 365)) ∧ Below w.heap.size w w' := by
  have HR := Lib.hid hr; clear hr
  have HOK := Lib.hid hR; clear hR
  obtain ⟨al1, al2⟩ := al
  dsimp only at a0 a1 a2 a3
  generalize hg : (fun i : Nat => seasonB r wd lvl (al1, al2) i) = g
  have HG := Lib.hid hg; clear hg
  go_enter Tryz.func68, Tryz.ntmps68
  go_wp2_with fail
  obtain ⟨W1, hW1⟩ : ∃ W1, (((w.alloc (Obj.cells #[Value.int IntKind.i64 r.first, Value.int IntKind.i64 r.years, Value.slice A len c] 24)).alloc (Obj.cells #[Value.int IntKind.i64 al1, Value.int IntKind.i64 al2] 36)).alloc (Obj.cells Tryz.zeroCells153 153)) = W1 := ⟨_, rfl⟩
  have K1 : Hid (Blk W1 w.heap.size 24 #[.int .i64 r.first, .int .i64 r.years, .slice A len c]) := by rw [← hW1]; exact ((Blk.new _ _ _ rfl).alloc _).alloc _
  have K2 : Hid (Blk W1 (w.heap.size + 1) 36 #[.int .i64 al1, .int .i64 al2]) := by rw [← hW1]; exact (Blk.new _ _ _ (by simp)).alloc _
  have K3 : Hid (Blk W1 (w.heap.size + 1 + 1) 153 (seaA g 0)) := by rw [← hW1, seaA_zero g]; exact Blk.new _ _ _ (by simp)
  have HB1 : Hid (Below w.heap.size w W1) := by rw [← hW1]; exact (((Below.refl _ _).alloc (Nat.le_refl _) _).alloc (by simp) _).alloc (by simp; omega) _
  rw [hW1]
  clear hW1
  go_loopw [10] (fun i wr => ∃ k : Nat, k ≤ 365 ∧ i = .int .i64 k ∧ Below (w.heap.size + 2) W1 wr ∧ Blk wr (w.heap.size + 1 + 1) 153 (seaA g k)) (fun i _ => 365 - (intOf i).toNat)
  case atStart => exact ⟨0, by omega, rfl, Below.refl _ _, K3.out⟩
  case round =>
    obtain ⟨k, hk, rfl, hB, hK⟩ := hrel
    have HB := Lib.hid hB; clear hB
    have HK := Lib.hid hK; clear hK
    have j1 := K1.out.below HB.out (by omega)
    have j2 := K2.out.below HB.out (by omega)
    have b0 := j1.cell (i := 0) rfl
    have b1 := j1.cell (i := 1) rfl
    have b2 := j1.cell (i := 2) rfl
    have b3 := j2.cell (i := 0) rfl
    have b4 := j2.cell (i := 1) rfl
    have HBw : Hid (Below w.heap.size w wr) := HB1.out.trans (HB.out.mono (by omega))
    clear j1 j2
    by_cases hlt : k < 365
    · have hk0 : (0 : Int) ≤ (k : Int) := by omega
      have hk1 : (k : Int) < 365 := by omega
      have hgk : g k = seasonB r wd lvl (al1, al2) k := by rw [← HG.out]
      have HGK := Lib.hid hgk; clear hgk
      have hrb := riskF_bounds HOK.out k wd lvl
      obtain ⟨rb1, rb2, rb3, rb4⟩ := hrb
      have hcr := risk_any r k wd lvl A len c wr.drew HOK.out (HR.out.below HBw.out.drew) (by omega) (by omega) d0 d1
      have HCR := Lib.hid hcr; clear hcr
      have HGT : Hid (decide (0 < cmpF (riskF r k wd lvl) (al1, al2)) = g k) := by rw [HGK.out]; exact cmp_gt
      generalize riskF r k wd lvl = rk at *
      obtain ⟨ra, rb⟩ := rk
      dsimp only at rb1 rb2 rb3 rb4
      go_wp2_with fail
      go_region_held3 (fun w' => w'.cell? ⟨w.heap.size, 0, none⟩ = some (.int .i64 r.first) ∧ w'.cell? ⟨w.heap.size, 1, none⟩ = some (.int .i64 r.years) ∧ w'.cell? ⟨w.heap.size, 2, none⟩ = some (.slice A len c) ∧ w'.cell? ⟨w.heap.size + 1, 0, none⟩ = some (.int .i64 al1) ∧ w'.cell? ⟨w.heap.size + 1, 1, none⟩ = some (.int .i64 al2)) (first | (go_keep; done) | ((try dsimp only); (try refine ⟨?_, ?_, ?_, ?_, ?_⟩); all_goals first | assumption | exact cell_far (by dsimp only; omega) t0 | exact cell_far (by dsimp only; omega) t1 | exact cell_far (by dsimp only; omega) t2 | exact cell_far (by dsimp only; omega) t3 | exact cell_far (by dsimp only; omega) t4))
        (first | (go_at_call 12; refine HCR.out.mono ?_; rintro e w1 ⟨rfl, hb1⟩; have s0 := cell_below hb1 b0; have s1 := cell_below hb1 b1; have s2 := cell_below hb1 b2; have s3 := cell_below hb1 b3; have s4 := cell_below hb1 b4) | (go_at_call 49; refine (compare_any _ _ _ _ _ (by omega) (by omega) (by omega) (by omega) (by omega) (by omega) (by omega) (by omega)).mono ?_; rintro e w2 ⟨rfl, hb2⟩; have t0 := cell_below hb2 s0; have t1 := cell_below hb2 s1; have t2 := cell_below hb2 s2; have t3 := cell_below hb2 s3; have t4 := cell_below hb2 s4; have kk := (Blk.later (w := wr.drew) HK.out hb1).later hb2; have u0 := kk.cell (seaA_get g k k hlt); have u1 := kk.frozen k; clear kk))
      rw [HGT.out]
      have HB2 : Hid (Below (w.heap.size + 2) W1 (w2.setCell ⟨w.heap.size + 1 + 1, k, none⟩ (.bool (g k)))) := by
        have h1 : Below (w.heap.size + 2) W1 w2 := (HB.out.drew).trans ((hb1.trans (hb2.mono hb1.size)).mono (by have := HK.out.lt; exact (by simpa using Nat.le_of_lt this)))
        exact h1.setCell (p := ⟨w.heap.size + 1 + 1, k, none⟩) (by simp) _
      have HK2 : Hid (Blk (w2.setCell ⟨w.heap.size + 1 + 1, k, none⟩ (.bool (g k))) (w.heap.size + 1 + 1) 153 (seaA g (k + 1))) := by
        have := ((Blk.later (w := wr.drew) HK.out hb1).later hb2).set k (.bool (g k))
        rw [seaA_set g k hlt] at this
        exact this
      clear hb1 hb2 s0 s1 s2 s3 s4 t0 t1 t2 t3 t4 u0 u1 b0 b1 b2 b3 b4
      generalize w2.setCell ⟨w.heap.size + 1 + 1, k, none⟩ (.bool (g k)) = w3 at *
      go_wp2
      go_roundw
      case rel => exact ⟨k + 1, by omega, by go_num, HB2.out, HK2.out⟩
      case measure => simp [intOf]; omega
    · have hk3 : k = 365 := by omega
      have HE := Lib.hid hk3; clear hk3
      clear b0 b1 b2 b3 b4
      have hth : wr.there (w.heap.size + 1 + 1) 0 (seaA g k).size := fun j hj => by
        rw [seaA_size] at hj
        rw [Nat.zero_add, HK.out.cell (seaA_get g k j hj)]
        exact ⟨rfl, HK.out.frozen j⟩
      have HTH := Lib.hid hth; clear hth
      have HK4 : Hid (Blk (wr.setCells (w.heap.size + 1 + 1) 0 (seaA g k).toList) (w.heap.size + 1 + 1) 153 (seaA g k)) := blk_setCells _ _ _ HK.out (fun j v hv => by simpa using hv)
      have HB4 : Hid (Below w.heap.size w (wr.setCells (w.heap.size + 1 + 1) 0 (seaA g k).toList)) := below_setCells (by omega) _ _ _ HBw.out
      have HSZ : Hid ((Tryz.prog.info? 153).map (·.size) = some (seaA g k).size) := by rw [seaA_size]; exact info109
      have HON := Lib.hid (seaA_one g k)
      have HFI : Hid (seaA g k = seaA g 365) := by rw [HE.out]; rfl
      clear HE
      generalize seaA g k = cs at *
      generalize hw5 : wr.setCells (w.heap.size + 1 + 1) 0 cs.toList = w5 at *
      have HW5 := Lib.hid hw5; clear hw5
      go_wp2_with (first | (refine wpList_load_row rfl 153 _ rfl _ rfl 153 cs (0, 0) _ HK.out Tryz.underlying153 rfl HSZ.out ?_; have tok : True := trivial) | (have _t := tok; refine wpList_store_mid rfl 153 _ _ rfl (w.heap.size + 1 + 1) 0 cs rfl rfl HTH.out HSZ.out HON.out ?_; rw [HW5.out]; clear tok))
      refine bodyPost_ret (v := .agg cs) ?_ rfl ?_
      · exact results_cell_row Tryz.results68 _ _ (w.heap.size + 1 + 1) 153 cs (0, 0) (.array 365 4) rfl HK4.out Tryz.underlying153 rfl HSZ.out
      · exact ⟨by rw [HFI.out], HB4.out⟩
end Go.Proofs.YtjdaigffgfnhaaaGreat
