/- Rows of lists, each a row of numbers; the document's placing of a set in order. -/
import Derived.Test.YtadldndpphdmpaaGreatTA
import Derived.Test.YtadldndpphdmpaaGreatP3
import Derived.Test.YtadldndpphdmpaaGreatG13
namespace Go.Proofs.YtadldndpphdmpaaGreat
open Go.RowKit Go.Shelf

abbrev LsP.v (p : LsP) : Value := .slice p.2.1 p.1.length p.2.2
/-- A list that is a row of numbers. -/
def IO (w : World) (p : LsP) : Prop := w.ownsRow 0 3 1 (LsP.v p) p.1.length (p.1.map (Value.int .i64))
theorem IO.below {w w' : World} {p : LsP} (h : IO w p) (hb : Below w.heap.size w w') : IO w' p := own_far h (grown_of_below hb none) (fun r e => by cases e)
theorem IO.far {w w' : World} {p : LsP} {row : Option Nat} (h : IO w p) (hg : w.grownBy w' row) (hr : ∀ r, row = some r → ∃ o : Obj, w.heap[r]? = some o ∧ ∀ cs m, o ≠ .cells cs 3 m) : IO w' p := own_far h hg (fun r e => .inr (hr r e))
theorem IO.rd {w : World} {p : LsP} (h : IO w p) : RdI w p.2.1 p.1.length p.1 := by
  obtain ⟨A, c, e, hr, _⟩ := rdI_of_own h rfl
  injection e with e1 _ _
  rw [e1]
  exact hr
theorem IO.cap {w : World} {p : LsP} (h : IO w p) : p.2.1 = none → p.2.2 = 0 := fun h0 => by
  rcases h.2 with ⟨e, _⟩ | ⟨g, cap, cur, e, _⟩
  · injection e
  · injection e with e1 _ _
    rw [h0] at e1
    cases e1
theorem IO.of {w : World} {base : Nat} {l : List Int} {A : Option Addr} {c : Nat} (h : w.ownsRow base 3 1 (.slice A l.length c) l.length (l.map (Value.int .i64))) : IO w (l, A, c) := own_lower h (Nat.zero_le _)
/-- Rows of lists. -/
structure IRows (w : World) (base : Nat) (v : Value) (ps : List LsP) : Prop where
  row : w.ownsRow base 38 1 v ps.length (ps.map LsP.v)
  all : ∀ p ∈ ps, IO w p
theorem IRows.below {w w' : World} {base : Nat} {v : Value} {ps : List LsP} (h : IRows w base v ps) (hb : Below w.heap.size w w') : IRows w' base v ps :=
  ⟨own_far h.row (grown_of_below hb none) (fun r e => by cases e), fun p hp => (h.all p hp).below hb⟩
theorem IRows.nil (w : World) (base : Nat) : IRows w base (.slice none 0 0) [] := ⟨World.ownsRow_nil _ _ _ _, by simp⟩
theorem IRows.lower {w : World} {base base' : Nat} {v : Value} {ps : List LsP} (h : IRows w base v ps) (hb : base' ≤ base) : IRows w base' v ps := ⟨own_lower h.row hb, h.all⟩
/-- Lists more. -/
theorem IRows.more {w w' : World} {base : Nat} {v v' : Value} {ps qs : List LsP} (h : IRows w base v ps) (hq : ∀ q ∈ qs, IO w q) (hg : w.grownBy w' v.ownBlock) (hown : w'.ownsRow base 38 1 v' (ps.length + qs.length) (ps.map LsP.v ++ qs.map LsP.v)) : IRows w' base v' (ps ++ qs) := by
  refine ⟨by rw [List.length_append, List.map_append]; exact hown, fun q hp => ?_⟩
  have hq' : IO w q := by
    rcases List.mem_append.1 hp with hp | hp
    · exact h.all q hp
    · exact hq q hp
  exact hq'.far hg (own_typed h.row (by decide))
theorem IRows.lsm {w : World} {base : Nat} {v : Value} {ps : List LsP} (h : IRows w base v ps) (hl : ∀ p ∈ ps, p.1.length ≤ 1000000000000000) : ∃ A c, v = .slice A ps.length c ∧ LsM w A ps.length (ps.map (·.1)) ps := by
  have hr := h.row
  rw [map_flat LsP.v] at hr
  obtain ⟨A, c, rfl, h1, _, _⟩ := rd_of_own (enc := fun p => [LsP.v p]) (k := 1) (fun _ => rfl) hr rfl
  exact ⟨A, c, rfl, ⟨h1, rfl, fun p hp => ⟨(h.all p hp).rd, hl p hp⟩⟩⟩

def insQ (q : LsP) : List LsP → List LsP
  | [] => [q]
  | y :: l => if beforeL q.1 y.1 = true then q :: y :: l else y :: insQ q l
theorem insQ_map (q : LsP) : ∀ l : List LsP, (insQ q l).map (·.1) = insZ q.1 (l.map (·.1))
  | [] => rfl
  | y :: l => by
    rw [insQ, List.map_cons, insZ]
    by_cases h : beforeL q.1 y.1 = true
    · rw [if_pos h, if_pos h]; rfl
    · rw [if_neg h, if_neg h, List.map_cons, insQ_map q l]
theorem drop_cons {α : Type} {l : List α} {k : Nat} {x : α} (h : l[k]? = some x) : l.drop k = x :: l.drop (k + 1) := by
  obtain ⟨hk, rfl⟩ := List.getElem?_eq_some_iff.1 h
  exact List.drop_eq_getElem_cons hk
theorem LsM.getP {w : World} {A : Option Addr} {n : Nat} {ls : List (List Int)} {ps : List LsP} (h : LsM w A n ls ps) {i : Nat} (hi : i < n) :
    ∃ (p : LsP) (ad : Addr), ps[i]? = some p ∧ A = some ad ∧ w.cell? (ad.add i) = some (LsP.v p) := by
  obtain ⟨p, ad, h1, h2, h3⟩ := h.rd.get hi
  have h4 := h3 0 _ rfl
  rw [Nat.mul_one] at h4
  exact ⟨p, ad, h1, h2, h4⟩

set_option maxRecDepth 100000 in
set_option maxHeartbeats 4000000 in
theorem placed_any (ps : List LsP) (q : LsP) (A : Option Addr) (c : Nat) (w : World) (hL : LsM w A ps.length (ps.map (·.1)) ps) (hp : ∀ p ∈ ps, IO w p) (hq : IO w q) (hn : ps.length ≤ 1000000) (hl : ∀ p ∈ ps, p.1.length ≤ 1000000) (hlq : q.1.length ≤ 1000000) :
    Calls Tryz.prog 33 #[.slice A ps.length c, .slice q.2.1 q.1.length q.2.2] w fun e w' => ∃ v' ps', e = .returned v' ∧ IRows w' w.heap.size v' ps' ∧ ps'.map (·.1) = insZ q.1 (ps.map (·.1)) ∧ Below w.heap.size w w' := by
  rw [← insQ_map]
  have HL := Lib.hid hL; have HP := Lib.hid hp; have HQ := Lib.hid hq; have HLl := Lib.hid hl; have HLq := Lib.hid hlq
  clear hL hp hq hl hlq
  obtain ⟨ii, hii, hzi0, hzi1, hzi2⟩ := info_parts infoIs
  go_enter Tryz.func33, Tryz.ntmps33
  go_wp2_with fail
  go_loopw [5, 6] (fun v i wr => ∃ (k : Nat) (qs : List LsP), k ≤ ps.length ∧ i = .int .i64 k ∧ IRows wr w.heap.size v qs ∧ Below w.heap.size w wr ∧ ((qs.length = k ∧ insQ q ps = qs ++ insQ q (ps.drop k)) ∨ (qs.length = k + 1 ∧ insQ q ps = qs ++ ps.drop k))) (fun _ i _ => ps.length - (intOf i).toNat)
  case atStart => exact ⟨0, [], Nat.zero_le _, rfl, IRows.nil _ _, Below.refl _ _, .inl ⟨rfl, rfl⟩⟩
  case round =>
    obtain ⟨k, qs, hk, rfl, hR, hB, hI⟩ := hrel
    have HR := Lib.hid hR; have HB := Lib.hid hB
    have hBz := hB.size
    have HBz := Lib.hid hBz
    obtain ⟨Ao, co, rfl, _⟩ := own_slice hR.row
    clear hR hB
    by_cases hlt : k < ps.length
    · obtain ⟨y, ad, hy, rfl, hcell0⟩ := HL.out.getP hlt
      have HYm := Lib.hid (List.mem_of_getElem? hy)
      have HDr := Lib.hid (drop_cons hy)
      have hkn : (k : Int) < (ps.length : Int) := by omega
      have HCell := Lib.hid hcell0
      have HBf := Lib.hid (before_any q.1 y.1 q.2.1 q.1.length q.2.2 y.2.1 y.1.length y.2.2 wr (HQ.out.below HB.out).rd ((HP.out y HYm.out).below HB.out).rd HLq.out)
      have hcell := cell_below HB.out HCell.out
      clear hy hcell0
      rcases hI with ⟨hl0, hI⟩ | ⟨hl1, hI⟩
      · have b0 : ((qs.length : Int) == (k : Int)) = true := by simp; omega
        have HI := Lib.hid hI
        have HL0 := Lib.hid hl0
        clear hI hl0
        go_wp2_with fail
        refine HBf.out.mono ?_
        rintro e W2 ⟨rfl, hb2⟩
        have HB2 : Hid (Below w.heap.size w W2) := HB.out.trans (hb2.mono HBz.out)
        have HR2 := Lib.hid (HR.out.below hb2)
        have HZ2 : Hid (w.heap.size ≤ W2.heap.size) := HB2.out.size
        have hcell2 := cell_below HB2.out HCell.out
        have HY2 := Lib.hid ((HP.out y HYm.out).below HB2.out)
        have HQ2 := Lib.hid (HQ.out.below HB2.out)
        have hql : qs.length ≤ 1000000 := by have := HL0.out; omega
        clear hb2 hcell HBf
        cases hbe : beforeL q.1 y.1
        · have HI2 : Hid (insQ q ps = qs ++ [y] ++ insQ q (ps.drop (k + 1))) := by
            have := HI.out
            rw [HDr.out, insQ, if_neg (by rw [hbe]; decide)] at this
            show _ = _
            rw [this, List.append_assoc]
            rfl
          clear hbe b0
          go_wp2_with (at_builtin; refine wpList_append_one rfl _ _ 27 rfl w.heap.size 38 ii (.slice none 0 0) 24 Tryz.underlying27 hii hzi0 hzi1 hzi2 rfl _ qs.length _ rfl HR2.out.row (LsP.v y) W2.heap.size rfl rfl rfl (by unfold maxLen; omega) (by omega) HZ2.out ?_; intro A' c' w2 hown' hgrow _; have HO2 := Lib.hid hown'; have HG2 := Lib.hid hgrow; clear hown' hgrow)
          go_roundw
          case rel => exact ⟨k + 1, qs ++ [y], by omega, by go_num, HR2.out.more (qs := [y]) (fun z hz => by rw [List.mem_singleton] at hz; subst hz; exact HY2.out) HG2.out HO2.out, HB2.out.grown HG2.out HZ2.out (fun r e => (HR2.out.row.lt r e).1), .inl ⟨by rw [List.length_append, HL0.out]; rfl, HI2.out⟩⟩
          case measure => simp [intOf]; omega
        · have HI2 : Hid (insQ q ps = qs ++ [q] ++ [y] ++ ps.drop (k + 1)) := by
            have := HI.out
            rw [HDr.out, insQ, if_pos hbe] at this
            show _ = _
            rw [this, List.append_assoc, List.append_assoc]
            rfl
          clear hbe b0
          go_wp2_with (at_builtin; first | (refine wpList_append_one rfl _ _ 27 rfl w.heap.size 38 ii (.slice none 0 0) 24 Tryz.underlying27 hii hzi0 hzi1 hzi2 rfl _ qs.length _ rfl HR2.out.row (LsP.v q) W2.heap.size rfl rfl rfl (by unfold maxLen; omega) (by omega) HZ2.out ?_; intro A' c' w2 hown' hgrow _; have HO2 := Lib.hid hown'; have HG2 := Lib.hid hgrow; have hR3 := HR2.out.more (qs := [q]) (fun z hz => by rw [List.mem_singleton] at hz; subst hz; exact HQ2.out) HG2.out HO2.out; have HR3 := Lib.hid hR3; have HB3 : Hid (Below w.heap.size w w2) := HB2.out.grown HG2.out HZ2.out (fun r e => (HR2.out.row.lt r e).1); have HY3 := Lib.hid ((HP.out y HYm.out).below HB3.out); have HZ3 : Hid (w.heap.size ≤ w2.heap.size) := HB3.out.size; have hcell3 := cell_below HB3.out HCell.out; have HO3 : Hid (w2.ownsRow w.heap.size 38 1 (.slice A' (qs.length + 1) c') (qs.length + 1) ((qs ++ [q]).map LsP.v)) := (by have := HR3.out.row; rw [List.length_append] at this; exact this); clear hown' hgrow hcell2 hR3) | (refine wpList_append_one rfl _ _ 27 rfl w.heap.size 38 ii (.slice none 0 0) 24 Tryz.underlying27 hii hzi0 hzi1 hzi2 rfl _ (qs.length + 1) _ rfl HO3.out (LsP.v y) w2.heap.size rfl rfl rfl (by unfold maxLen; omega) (by omega) HZ3.out ?_; intro A2' c2' w3 hown' hgrow _; have HO4 := Lib.hid hown'; have HG4 := Lib.hid hgrow; clear hown' hgrow))
          go_roundw
          case rel => exact ⟨k + 1, qs ++ [q] ++ [y], by omega, by go_num, HR3.out.more (qs := [y]) (fun z hz => by rw [List.mem_singleton] at hz; subst hz; exact HY3.out) HG4.out (by rw [List.length_append]; exact HO4.out), HB3.out.grown HG4.out HZ3.out (fun r e => (HO3.out.lt r e).1), .inr ⟨by rw [List.length_append, List.length_append, HL0.out]; rfl, HI2.out⟩⟩
          case measure => simp [intOf]; omega
      · have b0 : ((qs.length : Int) == (k : Int)) = false := by simp; omega
        have HI2 : Hid (insQ q ps = qs ++ [y] ++ ps.drop (k + 1)) := by
          show _ = _
          rw [hI, HDr.out, List.append_assoc]
          rfl
        have HL1 := Lib.hid hl1
        have hql : qs.length ≤ 1000001 := by omega
        have HY2 := Lib.hid ((HP.out y HYm.out).below HB.out)
        clear hI hl1
        go_wp2_with (at_builtin; refine wpList_append_one rfl _ _ 27 rfl w.heap.size 38 ii (.slice none 0 0) 24 Tryz.underlying27 hii hzi0 hzi1 hzi2 rfl _ qs.length _ rfl HR.out.row (LsP.v y) wr.heap.size rfl rfl rfl (by unfold maxLen; omega) (by omega) HBz.out ?_; intro A' c' w2 hown' hgrow _; have HO2 := Lib.hid hown'; have HG2 := Lib.hid hgrow; clear hown' hgrow)
        go_roundw
        case rel => exact ⟨k + 1, qs ++ [y], by omega, by go_num, HR.out.more (qs := [y]) (fun z hz => by rw [List.mem_singleton] at hz; subst hz; exact HY2.out) HG2.out HO2.out, HB.out.grown HG2.out HBz.out (fun r e => (HR.out.row.lt r e).1), .inr ⟨by rw [List.length_append, HL1.out]; rfl, HI2.out⟩⟩
        case measure => simp [intOf]; omega
    · obtain rfl : k = ps.length := by omega
      rcases hI with ⟨hl0, hI⟩ | ⟨hl1, hI⟩
      · have b0 : ((qs.length : Int) == (ps.length : Int)) = true := by simp; omega
        rw [List.drop_length] at hI
        have HI2 : Hid (insQ q ps = qs ++ [q]) := hI
        have HQ2 := Lib.hid (HQ.out.below HB.out)
        have hql : qs.length ≤ 1000000 := by omega
        clear hI hl0
        go_wp2_with (at_builtin; refine wpList_append_one rfl _ _ 27 rfl w.heap.size 38 ii (.slice none 0 0) 24 Tryz.underlying27 hii hzi0 hzi1 hzi2 rfl _ qs.length _ rfl HR.out.row (LsP.v q) wr.heap.size rfl rfl rfl (by unfold maxLen; omega) (by omega) HBz.out ?_; intro A' c' w2 hown' hgrow _; have HO2 := Lib.hid hown'; have HG2 := Lib.hid hgrow; clear hown' hgrow)
        go_ret
        exact ⟨_, qs ++ [q], rfl, HR.out.more (qs := [q]) (fun z hz => by rw [List.mem_singleton] at hz; subst hz; exact HQ2.out) HG2.out HO2.out, by rw [HI2.out], HB.out.grown HG2.out HBz.out (fun r e => (HR.out.row.lt r e).1)⟩
      · have b0 : ((qs.length : Int) == (ps.length : Int)) = false := by simp; omega
        rw [List.drop_length, List.append_nil] at hI
        have HI2 := Lib.hid hI
        clear hI hl1
        go_wp2_with fail
        go_ret
        exact ⟨_, qs, rfl, HR.out, by rw [HI2.out], HB.out⟩
end Go.Proofs.YtadldndpphdmpaaGreat
