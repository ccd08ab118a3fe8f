/- Effects, by the program. -/
import Derived.Test.YtadldndpphdmpaaGreatG9
namespace Go.Proofs.YtadldndpphdmpaaGreat
open Go.RowKit Go.Shelf

theorem LsM.one {w : World} {b : Nat} {l : List Int} {L : Option Addr} {cl : Nat} (hc : w.cell? ⟨b, 0, none⟩ = some (.slice L l.length cl)) (hr : RdI w L l.length l) (hl : l.length ≤ 1000000000000000) : LsM w (some ⟨b, 0, none⟩) 1 [l] [(l, L, cl)] :=
  ⟨⟨rfl, fun i x hx => by
      match i, hx with
      | 0, hx =>
        cases hx
        refine ⟨_, rfl, fun j v hj => ?_⟩
        match j, hj with
        | 0, hj => cases hj; exact hc
        | j + 1, hj => simp at hj
      | i + 1, hx => simp at hx⟩, rfl, fun p hp => by simp at hp; subst hp; exact ⟨hr, hl⟩⟩
theorem LsM.two {w : World} {b : Nat} {l l' : List Int} {L L' : Option Addr} {cl cl' : Nat} (hc : w.cell? ⟨b, 0, none⟩ = some (.slice L l.length cl)) (hc' : w.cell? ⟨b, 1, none⟩ = some (.slice L' l'.length cl')) (hr : RdI w L l.length l) (hl : l.length ≤ 1000000000000000) (hr' : RdI w L' l'.length l') (hl' : l'.length ≤ 1000000000000000) : LsM w (some ⟨b, 0, none⟩) 2 [l, l'] [(l, L, cl), (l', L', cl')] :=
  ⟨⟨rfl, fun i x hx => by
      match i, hx with
      | 0, hx =>
        cases hx
        refine ⟨_, rfl, fun j v hj => ?_⟩
        match j, hj with
        | 0, hj => cases hj; exact hc
        | j + 1, hj => simp at hj
      | 1, hx =>
        cases hx
        refine ⟨_, rfl, fun j v hj => ?_⟩
        match j, hj with
        | 0, hj => cases hj; exact hc'
        | j + 1, hj => simp at hj
      | i + 2, hx => simp at hx⟩, rfl, fun p hp => by
        simp at hp
        rcases hp with rfl | rfl
        · exact ⟨hr, hl⟩
        · exact ⟨hr', hl'⟩⟩
theorem LsM.zero (w : World) (A : Option Addr) : LsM w A 0 [] [] := ⟨⟨rfl, fun i x h => by simp at h⟩, rfl, fun p hp => by simp at hp⟩

/-- What Effects returns. -/
def effectsT (t : List Nd) (l : List Int) : Int × List Int :=
  if (aboutT t 0 [l]).1 = 0 then (0, bitsL (eff t ((aboutT t 0 [l]).2.headD 0))) else ((aboutT t 0 [l]).1, [])
/-- A new list of numbers, and an error. -/
def IntsErr (w : World) (X : Int × List Int) (e : Ending) (w' : World) : Prop :=
  ∃ v, e = .returned (.tuple #[v, .int .i64 X.1]) ∧ w'.ownsRow w.heap.size 3 1 v X.2.length (X.2.map (Value.int .i64)) ∧ Below w.heap.size w w'
theorem intsErr_nil {w w' : World} {x : Int} (hb : Below w.heap.size w w') : IntsErr w (x, []) (.returned (.tuple #[.slice none 0 0, .int .i64 x])) w' := ⟨_, rfl, World.ownsRow_nil _ _ _ _, hb⟩

theorem abS_len {t : List Nd} : ∀ (ls : List (List Int)) (acc : List Nat), (abS t acc ls).1 = 0 → (abS t acc ls).2.length = acc.length + ls.length
  | [], acc, _ => by simp [abS]
  | l :: r, acc, h => by
    rw [abS] at h ⊢
    by_cases h1 : (lstGo t l 0).1 = 0
    · rw [if_pos h1] at h ⊢
      rw [abS_len r _ h]
      simp
      omega
    · rw [if_neg h1] at h; exact absurd h h1
theorem abS_sub {t : List Nd} : ∀ (ls : List (List Int)) (acc : List Nat), (∀ s ∈ acc, Sub t s) → ∀ s ∈ (abS t acc ls).2, Sub t s
  | [], acc, h => h
  | l :: r, acc, h => by
    rw [abS]
    by_cases h1 : (lstGo t l 0).1 = 0
    · rw [if_pos h1]
      refine abS_sub r _ fun s hs => ?_
      rcases List.mem_append.1 hs with hs | hs
      · exact h s hs
      · simp at hs; subst hs; exact lstGo_sub l 0 (Sub.zero t)
    · rw [if_neg h1]; intro s hs; simp at hs
theorem aboutT_len {t : List Nd} {node : Int} {ls : List (List Int)} (h : (aboutT t node ls).1 = 0) : (aboutT t node ls).2.length = ls.length := by
  unfold aboutT at h ⊢
  by_cases h1 : (chkT t).2 ≠ 0
  · rw [if_pos h1] at h; exact absurd h h1
  · rw [if_neg h1] at h ⊢
    by_cases h2 : outB node 0 ((t.length : Int) - 1) = true
    · rw [if_pos h2] at h; exact absurd (show (4 : Int) = 0 from h) (by decide)
    · rw [if_neg h2] at h ⊢; rw [abS_len ls [] h]; simp
theorem aboutT_sub {t : List Nd} {node : Int} {ls : List (List Int)} : ∀ s ∈ (aboutT t node ls).2, Sub t s := by
  unfold aboutT
  by_cases h1 : (chkT t).2 ≠ 0
  · rw [if_pos h1]; intro s hs; simp at hs
  · rw [if_neg h1]
    by_cases h2 : outB node 0 ((t.length : Int) - 1) = true
    · rw [if_pos h2]; intro s hs; simp at hs
    · rw [if_neg h2]; exact abS_sub ls [] (by simp)

theorem map_flat {α β : Type} (f : α → β) : ∀ l : List α, l.map f = l.flatMap fun s => [f s]
  | [] => rfl
  | a :: r => by rw [List.map_cons, List.flatMap_cons, map_flat f r]; rfl
/-- A row of the call's own that holds sets: the set at a place. -/
theorem set_get {w : World} {base : Nat} {v : Value} {S : List Nat} (h : w.ownsRow base 57 1 v S.length (S.map setV)) {i s : Nat} (hs : S[i]? = some s) : ∃ ad c, v = .slice (some ad) S.length c ∧ w.cell? (ad.add i) = some (.int .u64 s) := by
  rw [map_flat setV] at h
  obtain ⟨A, c, rfl, hr, _, _⟩ := rd_of_own (k := 1) (fun _ => rfl) h rfl
  obtain ⟨ad, rfl, ha⟩ := hr.2 i s hs
  have := ha 0 _ rfl
  rw [Nat.mul_one] at this
  exact ⟨ad, c, rfl, this⟩

set_option maxRecDepth 100000 in
set_option maxHeartbeats 4000000 in
theorem Effects_any (t : List Nd) (l : List Int) (A : Option Addr) (n c : Nat) (ms : List NdM) (L : Option Addr) (cl : Nat) (w : World) (hT : TrM w t A n ms) (hc : n ≤ c) (hL : RdI w L l.length l) (hl : l.length ≤ 1000000000000000) :
    Calls Tryz.prog 19 #[.agg #[.slice A n c], .slice L l.length cl] w (IntsErr w (effectsT t l)) := by
  obtain ⟨W1, hW1⟩ : ∃ W1, (w.alloc (.cells #[.slice A n c] 24)).alloc (.cells #[.slice L l.length cl] 38) = W1 := ⟨_, rfl⟩
  have HB1 : Hid (Below w.heap.size w W1) := by rw [← hW1]; exact ((Below.refl _ w).alloc (Nat.le_refl _) _).alloc (by simp) _
  have hcell : W1.cell? ⟨w.heap.size + 1, 0, none⟩ = some (.slice L l.length cl) := by rw [← hW1]; exact cell_at_new (by simp) rfl
  have HAb := Lib.hid (about_any t 0 [l] A n c ms (some ⟨w.heap.size + 1, 0, none⟩) 1 1 [(l, L, cl)] W1 (hT.below HB1.out) hc (LsM.one hcell (hL.below HB1.out) hl) (by omega))
  have HW1 := Lib.hid hW1
  clear hcell hW1 hT hL
  have HErr : Hid (∀ x, (aboutT t 0 [l]).1 = x → x ≠ 0 → ∀ w', Below w.heap.size w w' → IntsErr w (effectsT t l) (.returned (.tuple #[.slice none 0 0, .int .i64 x])) w') := fun x hx hne w' hb => by
    unfold effectsT
    rw [if_neg (by rw [hx]; exact hne), hx]
    exact intsErr_nil hb
  have HOk : Hid (∀ s S, (aboutT t 0 [l]) = (0, s :: S) → ∀ v w', w'.ownsRow w.heap.size 3 1 v (bitsL (eff t s)).length ((bitsL (eff t s)).map (Value.int .i64)) → Below w.heap.size w w' → IntsErr w (effectsT t l) (.returned (.tuple #[v, .int .i64 0])) w') := fun s S hx v w' h1 h2 => by
    unfold effectsT
    rw [hx]
    exact ⟨v, rfl, h1, h2⟩
  have HLen := Lib.hid (fun h : (aboutT t 0 [l]).1 = 0 => aboutT_len h)
  have HSubs := Lib.hid (aboutT_sub (t := t) (node := 0) (ls := [l]))
  generalize IntsErr w (effectsT t l) = PP at *
  generalize aboutT t 0 [l] = X at *
  obtain ⟨x, S⟩ := X
  go_enter Tryz.func19, Tryz.ntmps19
  go_wp2_with fail
  rw [HW1.out]
  refine HAb.out.mono ?_
  rintro e W2 (⟨h0, rfl, hb⟩ | ⟨h0, T, M, cr, R, v, rfl, hF, hrow, hb, hM, hTb⟩)
  · have HB2 := Lib.hid (HB1.out.trans (hb.mono HB1.out.size))
    have hne : (x != 0) = true := by simpa using h0
    have F := Lib.hid (HErr.out x rfl h0)
    dsimp only at *
    clear h0 hb HAb
    go_wp2_with fail
    first | exact F.out _ HB2.out | (go_ret2; exact F.out _ HB2.out)
  · have hx : x = 0 := h0
    subst hx
    have hlen := HLen.out rfl
    dsimp only at *
    match S, hlen with
    | [s], _ =>
      have HB2 := Lib.hid (HB1.out.trans (hb.mono HB1.out.size))
      obtain ⟨ad, cv, rfl, hcs⟩ := set_get hrow (i := 0) rfl
      have hsub := HSubs.out s (by simp)
      have HEf := Lib.hid (effects_any t s T A n c ms R cr M 0 W2 hF hsub (by omega))
      have hok := hF.ok
      have HLt : Hid (eff t s < 18446744073709551616) := by have := pow_40 hok (eff_lt hok hsub); show _ < _; omega
      have F := Lib.hid (HOk.out s [] rfl)
      have hM2 : w.heap.size ≤ M := by have := HB1.out.size; omega
      have HM2 := Lib.hid hM2
      clear hrow hb hF hsub hok hM hTb hM2 HAb h0
      generalize eff t s = es at *
      have hcs0 : W2.cell? ad = some (.int .u64 (s : Int)) := hcs
      clear hcs
      go_wp2_with fail
      refine HEf.out.mono ?_
      rintro e W3 ⟨rfl, hF3, hb3⟩
      have HB3 : Hid (Below w.heap.size w W3) := HB2.out.trans (hb3.below HM2.out HB2.out.size)
      have HLi := Lib.hid (list_any es W3 HLt.out)
      clear hF3 hb3 hcs0
      go_wp2_with fail
      refine HLi.out.mono ?_
      rintro e W4 ⟨v, rfl, h1, h2⟩
      have H1 := Lib.hid (own_lower h1 HB3.out.size)
      have HB4 := Lib.hid (HB3.out.trans (h2.mono HB3.out.size))
      clear h1 h2
      go_wp2_with fail
      first | exact F.out _ _ H1.out HB4.out | (go_ret2; exact F.out _ _ H1.out HB4.out)
end Go.Proofs.YtadldndpphdmpaaGreat
