/- Saves, by the program. -/
import Derived.Test.YtadldndpphdmpaaGreatG13
namespace Go.Proofs.YtadldndpphdmpaaGreat
open Go.RowKit Go.Shelf

/-- The spans of a basic node: one of a set has failed for good, but one is repaired at a tick. -/
def ownS (s b : Nat) (tick : Int) (i : Nat) : List Sp := if s.testBit i = true then [⟨(i : Int), 0, if i = b then tick else 1073741824⟩] else []
def savesT (t : List Nd) (l : List Int) (node tick : Int) : Int × List Int :=
  if (aboutT t node [l]).1 = 0 then (if outB tick 0 400 = true then (7, []) else (0, (bitsL ((aboutT t node [l]).2.headD 0)).filter fun b => (spL t (ownS ((aboutT t node [l]).2.headD 0) b.toNat tick) node.toNat).length == 0)) else ((aboutT t node [l]).1, [])

set_option maxRecDepth 100000 in
set_option maxHeartbeats 4000000 in
theorem saves1_any (i s b : Nat) (tick : Int) (B1 B2 B3 : Nat) (ad : Addr) (cv : Nat) (W : World) (hs : s < 18446744073709551616) (hi : i ≤ 63)
    (h1 : W.cell? ⟨B1, 0, none⟩ = some (.slice (some ad) 1 cv)) (h1a : W.cell? ad = some (.int .u64 s)) (h2 : W.cell? ⟨B2, 0, none⟩ = some (.int .i64 b)) (h3 : W.cell? ⟨B3, 0, none⟩ = some (.int .i64 tick)) :
    Calls Tryz.prog 42 #[.int .i64 i, .pointer (some ⟨B1, 0, none⟩), .pointer (some ⟨B2, 0, none⟩), .pointer (some ⟨B3, 0, none⟩)] W fun e W' => ∃ B c, e = .returned (.slice B (ownS s b tick i).length c) ∧ RdS W' B (ownS s b tick i).length (ownS s b tick i) ∧ Below W.heap.size W W' := by
  have HHas := Lib.hid (fun W => has_any s i W hs hi)
  have z1 : B1 < W.heap.size := cell_lt h1
  have z1a : ad.block < W.heap.size := cell_lt h1a
  have z2 : B2 < W.heap.size := cell_lt h2
  have z3 : B3 < W.heap.size := cell_lt h3
  clear hs
  cases hb : s.testBit i
  · have HO : Hid (ownS s b tick i = []) := by unfold ownS; rw [hb]; rfl
    rw [hb] at HHas
    clear hb
    go_enter Tryz.func42, Tryz.ntmps42
    go_wp2_with (go_at_call 26; refine (HHas.out _).mono ?_; rintro e w' ⟨rfl, rfl⟩)
    go_ret
    rw [HO.out]
    exact ⟨none, 0, rfl, Rd.nil, (Below.refl _ _).alloc (Nat.le_refl _) _⟩
  · rw [hb] at HHas
    by_cases hib : i = b
    · have HO : Hid (ownS s b tick i = [⟨(i : Int), 0, tick⟩]) := by unfold ownS; rw [hb, if_pos hib]; rfl
      subst hib
      clear hb
      have hq : ((i : Int) == (i : Int)) = true := by simp
      go_enter Tryz.func42, Tryz.ntmps42
      go_wp2_with (first | (go_at_call 26; refine (HHas.out _).mono ?_; rintro e w' ⟨rfl, rfl⟩) | (refine wpList_buildSlice_one rfl 82 84 _ rfl 3 _ #[.int .i64 i, .int .i64 0, .int .i64 tick] rfl Tryz.underlying82 (Tryz.sizeOf84 _) (Tryz.zeroValue84 _) rfl (by omega) (by omega) ?_))
      go_ret
      rw [HO.out]
      exact ⟨some ⟨W.heap.size + 1, 0, none⟩, 1, rfl, (SpO.new (s := ⟨(i : Int), 0, tick⟩) (Blk.new _ _ _ (by simp))).rd, ((Below.refl _ _).alloc (Nat.le_refl _) _).alloc (by simp) _⟩
    · have HO : Hid (ownS s b tick i = [⟨(i : Int), 0, 1073741824⟩]) := by unfold ownS; rw [hb, if_neg hib]; rfl
      have hq : ((i : Int) == (b : Int)) = false := by simp; omega
      clear hb hib
      go_enter Tryz.func42, Tryz.ntmps42
      go_wp2_with (first | (go_at_call 26; refine (HHas.out _).mono ?_; rintro e w' ⟨rfl, rfl⟩) | (refine wpList_buildSlice_one rfl 82 84 _ rfl 3 _ #[.int .i64 i, .int .i64 0, .int .i64 1073741824] rfl Tryz.underlying82 (Tryz.sizeOf84 _) (Tryz.zeroValue84 _) rfl (by omega) (by omega) ?_))
      go_ret
      rw [HO.out]
      exact ⟨some ⟨W.heap.size + 1, 0, none⟩, 1, rfl, (SpO.new (s := ⟨(i : Int), 0, 1073741824⟩) (Blk.new _ _ _ (by simp))).rd, ((Below.refl _ _).alloc (Nat.le_refl _) _).alloc (by simp) _⟩

theorem ownS_inR {s b : Nat} {tick : Int} (h0 : 0 ≤ tick) (h1 : tick ≤ 400) (i : Nat) : InR 0 1500000000 (ownS s b tick i) := by
  intro u hu
  unfold ownS at hu
  by_cases hb : s.testBit i = true
  · rw [if_pos hb, List.mem_singleton] at hu
    subst hu
    dsimp only
    split <;> omega
  · rw [if_neg hb] at hu; simp at hu
theorem ownS_b {s b : Nat} {tick : Int} (i : Nat) : ∀ u ∈ ownS s b tick i, u.b ∈ [tick, 1073741824] := by
  intro u hu
  unfold ownS at hu
  by_cases hb : s.testBit i = true
  · rw [if_pos hb, List.mem_singleton] at hu
    subst hu
    dsimp only
    split <;> simp
  · rw [if_neg hb] at hu; simp at hu
theorem ownS_len {s b : Nat} {tick : Int} (i : Nat) : (ownS s b tick i).length ≤ 1 := by unfold ownS; split <;> simp

set_option maxRecDepth 100000 in
set_option maxHeartbeats 8000000 in
theorem Saves_any (t : List Nd) (l : List Int) (node tick : Int) (A : Option Addr) (n c : Nat) (ms : List NdM) (L : Option Addr) (cl : Nat) (w : World) (hT : TrM w t A n ms) (hc : n ≤ c) (hL : RdI w L l.length l) (hl : l.length ≤ 1000000000000000) :
    Calls Tryz.prog 18 #[.agg #[.slice A n c], .slice L l.length cl, .int .i64 node, .int .i64 tick] w (IntsErr w (savesT t l node tick)) := by
  obtain ⟨W1, hW1⟩ : ∃ W1, ((w.alloc (.cells #[.slice A n c] 24)).alloc (.cells #[.int .i64 tick] 3)).alloc (.cells #[.slice L l.length cl] 38) = W1 := ⟨_, rfl⟩
  have HB1 : Hid (Below w.heap.size w W1) := by rw [← hW1]; exact (((Below.refl _ w).alloc (Nat.le_refl _) _).alloc (by simp) _).alloc (by simp; omega) _
  have hcell : W1.cell? ⟨w.heap.size + 1 + 1, 0, none⟩ = some (.slice L l.length cl) := by rw [← hW1]; exact cell_at_new (by simp) rfl
  have K1 : Hid (Blk W1 (w.heap.size + 1) 3 #[.int .i64 tick]) := by rw [← hW1]; exact (Blk.new _ _ _ (by simp)).alloc _
  have HAb := Lib.hid (about_any t node [l] A n c ms (some ⟨w.heap.size + 1 + 1, 0, none⟩) 1 1 [(l, L, cl)] W1 (hT.below HB1.out) hc (LsM.one hcell (hL.below HB1.out) hl) (by omega))
  have HW1 := Lib.hid hW1
  clear hcell hW1 hT hL
  have HLen := Lib.hid (fun h : (aboutT t node [l]).1 = 0 => aboutT_len h)
  have HNode := Lib.hid (fun h : (aboutT t node [l]).1 = 0 => aboutT_node h)
  have HSubs := Lib.hid (aboutT_sub (t := t) (node := node) (ls := [l]))
  have HErr : Hid (∀ x, (savesT t l node tick) = (x, []) → ∀ w', Below w.heap.size w w' → IntsErr w (savesT t l node tick) (.returned (.tuple #[.slice none 0 0, .int .i64 x])) w') := fun x hx w' hb => by
    rw [hx]; exact intsErr_nil hb
  have HOkk : Hid (∀ r, (savesT t l node tick) = (0, r) → ∀ v w', w'.ownsRow w.heap.size 3 1 v r.length (r.map (Value.int .i64)) → Below w.heap.size w w' → IntsErr w (savesT t l node tick) (.returned (.tuple #[v, .int .i64 0])) w') := fun r hx v w' h1 h2 => by
    rw [hx]; exact ⟨v, rfl, h1, h2⟩
  generalize IntsErr w (savesT t l node tick) = PP at *
  unfold savesT at HErr HOkk
  generalize aboutT t node [l] = X at *
  obtain ⟨x, S⟩ := X
  dsimp only at *
  go_enter Tryz.func18, Tryz.ntmps18
  go_wp2_with fail
  rw [HW1.out]
  refine HAb.out.mono ?_
  rintro e W2 (⟨h0, rfl, hb⟩ | ⟨h0, T, M, cr, R, v, rfl, hF, hrow, hb, hM, hTb⟩)
  · have HB2 := Lib.hid (HB1.out.trans (hb.mono HB1.out.size))
    have hne : (x != 0) = true := by simpa using h0
    have F := Lib.hid (HErr.out x (by rw [if_neg h0]))
    dsimp only at *
    clear h0 hb HAb
    go_wp2_with fail
    have hfin := F.out _ (HB2.out.alloc HB2.out.size (.cells #[.slice none 0 0] 48))
    first | exact hfin | (go_ret2; exact hfin)
  · have hx : x = 0 := h0
    subst hx
    have hlen := HLen.out rfl
    dsimp only at *
    match S, hlen with
    | [s], _ =>
      have HB2 := Lib.hid (HB1.out.trans (hb.mono HB1.out.size))
      have K2 := Lib.hid (K1.out.later hb)
      obtain ⟨ad, cv, rfl, hcs⟩ := set_get hrow (i := 0) rfl
      have hsub := HSubs.out s (by simp)
      obtain ⟨hok, nd0, nd1⟩ := HNode.out rfl
      have hs64 : s < 18446744073709551616 := by have := pow_40 hok hsub.lt; omega
      have hln := hF.tr.len
      have n40 := hok.l40
      rw [hln] at n40 nd1
      have hM2 : w.heap.size ≤ M := by have := HB1.out.size; omega
      have hcs0 : W2.cell? ad = some (.int .u64 (s : Int)) := hcs
      have HCs := Lib.hid hcs0
      have HOk := Lib.hid hok
      have HSub := Lib.hid hsub
      have HLn := Lib.hid hln
      have H64 := Lib.hid hs64
      have HF := Lib.hid hF
      obtain ⟨nn, rfl⟩ : ∃ nn : Nat, node = (nn : Int) := ⟨node.toNat, by omega⟩
      have hnn : nn < n := by omega
      simp only [Int.toNat_natCast] at HErr HOkk
      obtain ⟨W3, hW3⟩ : ∃ W3, W2.alloc (.cells #[.slice (some ad) 1 cv] 48) = W3 := ⟨_, rfl⟩
      have HB3 : Hid (Below W2.heap.size W2 W3) := by rw [← hW3]; exact (Below.refl _ _).alloc (Nat.le_refl _) _
      have K3 : Hid (Blk W3 W2.heap.size 48 #[.slice (some ad) 1 cv]) := by rw [← hW3]; exact Blk.new _ _ _ rfl
      have HW3 := Lib.hid hW3
      clear hW3 hrow hb hF hsub hok hM hTb hM2 HAb h0 hcs hln hs64 HLen HNode HSubs hcs0
      by_cases hto : outB tick 0 400 = true
      · have F := Lib.hid (HErr.out 7 (by rw [if_pos trivial, if_pos hto]))
        have c1 := (K2.out.later HB3.out).cell (i := 0) rfl
        have cz := (K2.out.later HB3.out).lt
        have c2 := K2.out.cell (i := 0) rfl
        have cz2 := K2.out.lt
        have HB4 := Lib.hid (HB2.out.trans (HB3.out.mono HB2.out.size))
        go_wp2_with (go_at_call 37; refine (out_any _ _ _ _).mono ?_; rintro e w' ⟨rfl, rfl⟩)
        rw [HW3.out]
        first | exact F.out _ HB4.out | (go_ret2; exact F.out _ HB4.out)
      · have hto' : outB tick 0 400 = false := by simpa using hto
        obtain ⟨tk0, tk1⟩ := outB_false hto'
        have F := Lib.hid (HOkk.out ((bitsL s).filter fun b => (spL t (ownS s b.toNat tick) nn).length == 0) (by rw [if_pos trivial, if_neg hto]; rfl))
        have c2 := K2.out.cell (i := 0) rfl
        have cz2 := K2.out.lt
        have hcs0 := HCs.out
        have hcz : ad.block < W2.heap.size := cell_lt hcs0
        have HLi := Lib.hid (list_any s W3 H64.out)
        clear hto
        go_wp2_with (first | (go_at_call 37; refine (out_any _ _ _ _).mono ?_; rintro e w' ⟨rfl, rfl⟩) | fail)
        rw [HW3.out]
        refine HLi.out.mono ?_
        rintro e W4 ⟨vl, rfl, h1, h2⟩
        have hbl : (bitsL s).length ≤ 64 := by unfold bitsL; rw [List.length_map]; exact Nat.le_trans (List.length_filter_le _ _) (by simp)
        have HBm := Lib.hid (fun b => (mem_bitsL (s := s) (by have := H64.out; omega) (n := b)).1)
        have HB4 : Hid (Below W3.heap.size W3 W4) := h2
        obtain ⟨AL, cL, e0, hrdl, _, _⟩ := rdI_of_own h1 rfl
        subst e0
        have HRdL := Lib.hid hrdl
        have HB24 : Hid (Below W2.heap.size W2 W4) := HB3.out.trans (HB4.out.mono HB3.out.size)
        have HF4 := Lib.hid (HF.out.below HB24.out)
        have K4s := Lib.hid (K3.out.later HB4.out)
        have K4t := Lib.hid (K2.out.later HB24.out)
        have HC4 : Hid (W4.cell? ad = some (.int .u64 (s : Int))) := cell_below HB24.out HCs.out
        have HBw4 : Hid (Below w.heap.size w W4) := HB2.out.trans (HB24.out.mono HB2.out.size)
        have hw4 := HBw4.out.size
        clear h1 h2 hrdl c2 cz2 hcs0 hcz HLi
        generalize hbs : bitsL s = BL at *
        clear hbs
        obtain ⟨ii, hii, hzi0, hzi1, hzi2⟩ := info_parts infoI
        have eg : ∀ args w, (callFunc 42 args).run Tryz.prog w = .ok (.enter 42 args) w := enters_of Tryz.func42 (by kernel_rfl) rfl
        have HEg := Lib.hid eg
        clear eg
        go_wp2_with fail
        go_loopw [13, 38] (fun v i wr => ∃ (j : Nat) (sv : List Int), j ≤ BL.length ∧ i = .int .i64 j ∧ sv = (BL.take j).filter (fun b => (spL t (ownS s b.toNat tick) nn).length == 0) ∧ sv.length ≤ j ∧ wr.ownsRow W4.heap.size 3 1 v sv.length (sv.map (Value.int .i64)) ∧ Below W4.heap.size W4 wr) (fun _ i _ => BL.length - (intOf i).toNat)
        case atStart => exact ⟨0, [], Nat.zero_le _, rfl, rfl, Nat.zero_le _, World.ownsRow_nil _ _ _ _, Below.refl _ _⟩
        case round =>
          obtain ⟨j, sv, hj, rfl, hsv, hsl, hrw, hB⟩ := hrel
          have HSv := Lib.hid hsv; have HRw := Lib.hid hrw; have HB := Lib.hid hB
          clear hsv hrw hB
          by_cases hjl : j < BL.length
          · obtain ⟨b, bd, hb, hAb, cb⟩ := rdI_get (HRdL.out.below HB.out) hjl
            subst hAb
            obtain ⟨hb0, hb1⟩ := HBm.out b (List.mem_of_getElem? hb)
            obtain ⟨bn, rfl⟩ : ∃ bn : Nat, b = (bn : Int) := ⟨b.toNat, by omega⟩
            have HTk : Hid ((BL.take (j + 1)).filter (fun b => (spL t (ownS s b.toNat tick) nn).length == 0) = sv ++ if (spL t (ownS s bn tick) nn).length == 0 then [(bn : Int)] else []) := by
              obtain ⟨hk', e⟩ := List.getElem?_eq_some_iff.1 hb
              rw [List.take_succ_eq_append_getElem hk', List.filter_append, e, HSv.out]
              show _ = _
              congr 1
              by_cases hq : ((spL t (ownS s bn tick) nn).length == 0) = true <;> simp [hq]
            have hjl' : (j : Int) < (BL.length : Int) := by omega
            have HBz := Lib.hid HB.out.size
            have hBz := HB.out.size
            clear hb hb1
            obtain ⟨W5, hW5⟩ : ∃ W5, wr.alloc (.cells #[.int .i64 (bn : Int)] 3) = W5 := ⟨_, rfl⟩
            have HB5 : Hid (Below wr.heap.size wr W5) := by rw [← hW5]; exact (Below.refl _ _).alloc (Nat.le_refl _) _
            have K5 : Hid (Blk W5 wr.heap.size 3 #[.int .i64 (bn : Int)]) := by rw [← hW5]; exact Blk.new _ _ _ rfl
            have HB45 : Hid (Below W4.heap.size W4 W5) := HB.out.trans (HB5.out.mono HB.out.size)
            have HRun := Lib.hid (run_any t (ownS s bn tick) 42 #[.pointer (some ⟨W2.heap.size, 0, none⟩), .pointer (some ⟨wr.heap.size, 0, none⟩), .pointer (some ⟨w.heap.size + 1, 0, none⟩)] 1500000000 [tick, 1073741824] T A n c ms R cr M 0 W5 (HF4.out.below HB45.out) HEg.out
              (fun i W hi hW => saves1_any i s bn tick W2.heap.size wr.heap.size (w.heap.size + 1) ad cv W H64.out (by have := isBas_lt hi; have := HLn.out; omega) ((K4s.out.later (HB45.out.trans (hW.mono HB45.out.size))).cell (i := 0) rfl) (cell_below (HB45.out.trans (hW.mono HB45.out.size)) HC4.out) ((K5.out.later hW).cell (i := 0) rfl) ((K4t.out.later (HB45.out.trans (hW.mono HB45.out.size))).cell (i := 0) rfl))
              (fun i _ => ownS_inR tk0 tk1 i) (by omega) (fun i _ => ownS_b i) (by simp) (fun i _ => by have := ownS_len (s := s) (b := bn) (tick := tick) i; omega))
            have HW5 := Lib.hid hW5
            clear hW5
            go_wp2_with fail
            rw [HW5.out]
            refine HRun.out.mono ?_
            rintro e W6 ⟨vr, ps, rfl, hRo, hps, hb6⟩
            obtain ⟨AR, cR, e0, hsps⟩ := hRo.sps
            subst e0
            have hpl : ps.length = n := by have := congrArg List.length hps; simp at this; rw [this]; exact HLn.out
            obtain ⟨sp, B, cB, rdd, hsp, hAR, csp, _⟩ := hsps.get (i := nn) (by omega)
            subst hAR
            have hspv : sp = spL t (ownS s bn tick) nn := by
              rw [hps, List.getElem?_map, List.getElem?_range (by rw [HLn.out]; exact hnn)] at hsp
              exact (Option.some.inj hsp).symm
            have HB46 : Hid (Below W4.heap.size W4 W6) := HB45.out.trans (hb6.mono HB45.out.size)
            have HBr6 : Hid (Below wr.heap.size wr W6) := HB5.out.trans (hb6.mono HB5.out.size)
            have K6 := K5.out.later hb6
            have k60 := K6.cell (i := 0) rfl
            have k6z := K6.lt
            have HRw6 : Hid (W6.ownsRow W4.heap.size 3 1 u13 sv.length (sv.map (Value.int .i64))) := own_far HRw.out (grown_of_below HBr6.out none) (fun r e => by cases e)
            have HZ6 : Hid (W4.heap.size ≤ W6.heap.size) := HB46.out.size
            have hpn : (nn : Int) < (ps.length : Int) := by omega
            rw [← hspv] at HTk
            clear hspv hsp hsps hRo hps hb6 K6 hpl HRun
            generalize sp.length = spn at *
            by_cases hz : spn = 0
            · have hz' : ((spn : Int) == 0) = true := by simp [hz]
              have HT2 : Hid (sv ++ [(bn : Int)] = (BL.take (j + 1)).filter (fun b => (spL t (ownS s b.toNat tick) nn).length == 0)) := by have := HTk.out; rw [hz] at this; exact this.symm
              have HNat : Hid (spn = 0) := hz
              clear hz HTk
              go_wp2_with (at_builtin; refine wpList_append_one rfl _ _ 38 rfl W4.heap.size 3 ii (.int .i64 0) 8 Tryz.underlying38 hii hzi0 hzi1 hzi2 rfl _ _ _ rfl HRw6.out (.int .i64 (bn : Int)) W6.heap.size rfl rfl (by simp [Value.oneCell']) (by unfold maxLen; omega) (by omega) HZ6.out ?_; intro A' c'' w2 hown' hgrow _; have HO2 := Lib.hid hown'; have HG2 := Lib.hid hgrow; clear hown' hgrow)
              go_roundw
              case rel => exact ⟨j + 1, sv ++ [(bn : Int)], by omega, by go_num, HT2.out, by rw [List.length_append]; simp; omega, by rw [List.length_append, List.map_append]; exact HO2.out, HB46.out.grown HG2.out HZ6.out (fun r e => (HRw6.out.lt r e).1)⟩
              case measure => simp [intOf]; omega
            · have hz' : ((spn : Int) == 0) = false := by simp; omega
              have HT2 : Hid (sv = (BL.take (j + 1)).filter (fun b => (spL t (ownS s b.toNat tick) nn).length == 0)) := by have := HTk.out; rw [if_neg (by simp; exact hz), List.append_nil] at this; exact this.symm
              clear hz HTk
              go_wp2_with fail
              go_roundw
              case rel => exact ⟨j + 1, sv, by omega, by go_num, HT2.out, by omega, HRw6.out, HB46.out⟩
              case measure => simp [intOf]; omega
          · obtain rfl : j = BL.length := by omega
            rw [List.take_length] at HSv
            have hsvv := HSv.out
            subst hsvv
            have HBf : Hid (Below w.heap.size w wr) := HBw4.out.trans (HB.out.mono hw4)
            have HR2 := Lib.hid (own_lower HRw.out hw4)
            go_wp2_with fail
            first | exact F.out _ _ HR2.out HBf.out | (go_ret2; exact F.out _ _ HR2.out HBf.out)
end Go.Proofs.YtadldndpphdmpaaGreat
