/- The document's good and ran: walks. -/
import Derived.Test.YtadldndpphdmpaaI5
import Derived.Test.YtadldndpphdmpaaG13
namespace Go.Proofs.Ytadldndpphdmpaa
open Go.RowKit Go.Shelf

/-- A new list of spans. -/
def NewSp (w : World) (l : List Sp) (e : Ending) (w' : World) : Prop :=
  ∃ v, e = .returned v ∧ w'.ownsRow w.heap.size 65 3 v l.length (l.flatMap Sp.enc) ∧ Below w.heap.size w w'
def goodL (l : List Int) (n : Int) : List Sp := l.map fun x => ⟨x, 0, n⟩
theorem map_take_step {α β : Type} (f : α → β) {l : List α} {k : Nat} {x : α} (h : l[k]? = some x) : (l.take (k + 1)).map f = (l.take k).map f ++ [f x] := by
  obtain ⟨hk, rfl⟩ := List.getElem?_eq_some_iff.1 h
  rw [List.take_succ_eq_append_getElem hk, List.map_append]; rfl
set_option maxRecDepth 100000 in
set_option maxHeartbeats 4000000 in
theorem good_any (l : List Int) (y : Int) (A : Option Addr) (n c : Nat) (w : World) (hx : RdI w A n l) (hn : n ≤ 1000000) :
    Calls Try.prog 58 #[.slice A n c, .int .i64 y] w (NewSp w (goodL l y)) := by
  have hl := hx.1
  have HX := Lib.hid hx
  have HL := Lib.hid hl
  have HG : Hid (goodL l y = l.map fun x => (⟨x, 0, y⟩ : Sp)) := rfl
  generalize goodL l y = GL at *
  clear hx hl
  obtain ⟨jj, hij, hzj0, hzj1, hzj2⟩ := info_parts infoSp
  go_enter Try.func58, Try.ntmps58
  go_wp2_with fail
  go_loopw [5, 6] (fun v i wr => ∃ k : Nat, k ≤ n ∧ i = .int .i64 k ∧ wr.ownsRow w.heap.size 65 3 v k (((l.take k).map fun x => (⟨x, 0, y⟩ : Sp)).flatMap Sp.enc) ∧ Below w.heap.size w wr) (fun _ i _ => n - (intOf i).toNat)
  case atStart => exact ⟨0, Nat.zero_le _, rfl, World.ownsRow_nil _ _ _ _, Below.refl _ _⟩
  case round =>
    obtain ⟨k, hk, rfl, hrw, hB⟩ := hrel
    have HRw := Lib.hid hrw; have HB := Lib.hid hB
    have hBz := hB.size
    have HBz := Lib.hid hBz
    clear hrw hB
    by_cases hlt : k < n
    · obtain ⟨v, ad, hv, rfl, cv⟩ := rdI_get (HX.out.below HB.out) hlt
      have HSu := Lib.hid (map_take_step (fun x => (⟨x, 0, y⟩ : Sp)) hv)
      have hkn : (k : Int) < (n : Int) := by omega
      clear hv
      go_wp2_with (first | (refine wpList_buildSlice_one rfl 56 65 _ rfl 3 _ #[.int .i64 v, .int .i64 0, .int .i64 y] rfl Try.underlying56 (Try.sizeOf65 _) (Try.zeroValue65 _) rfl (by omega) (by omega) ?_) | (at_builtin; refine wpList_append_st rfl _ _ 56 rfl w.heap.size 65 jj (.agg #[.int .i64 0, .int .i64 0, .int .i64 0]) 3 24 Try.underlying56 hij hzj0 hzj1 hzj2 rfl (by decide) _ _ _ rfl HRw.out #[.int .i64 v, .int .i64 0, .int .i64 y] rfl wr.heap.size rfl rfl (by simp [Value.oneCell']) (by unfold maxLen; omega) (by omega) HBz.out ?_; intro A' c'' w2 hown' hgrow _; have HO2 := Lib.hid hown'; have HG2 := Lib.hid hgrow; clear hown' hgrow))
      go_roundw
      case rel => exact ⟨k + 1, by omega, by go_num, by rw [HSu.out, List.flatMap_append]; exact HO2.out, HB.out.grown HG2.out HBz.out (fun r e => (HRw.out.lt r e).1)⟩
      case measure => simp [intOf]; omega
    · obtain rfl : n = k := by omega
      have HF : Hid (l.take n = l) := List.take_of_length_le (by have := HL.out; omega)
      rw [HF.out, ← HG.out] at HRw
      have HGl : Hid (GL.length = n) := by rw [HG.out, List.length_map]; exact HL.out
      go_wp2_with fail
      go_ret
      exact ⟨_, rfl, by rw [HGl.out]; exact HRw.out, HB.out⟩

abbrev BoP := List Bool × Option Addr × Nat
abbrev BoP.v (p : BoP) : Value := .slice p.2.1 p.1.length p.2.2
def BoO (w : World) (p : BoP) : Prop := w.ownsRow 0 4 1 (BoP.v p) p.1.length (p.1.map Value.bool)
theorem BoO.far {w w' : World} {p : BoP} {row : Option Nat} (h : BoO w p) (hg : w.grownBy w' row) (hr : ∀ r, row = some r → ∃ o : Obj, w.heap[r]? = some o ∧ ∀ cs m, o ≠ .cells cs 4 m) : BoO w' p := own_far h hg (fun r e => .inr (hr r e))
theorem BoO.of {w : World} {base : Nat} {l : List Bool} {A : Option Addr} {c : Nat} (h : w.ownsRow base 4 1 (.slice A l.length c) l.length (l.map Value.bool)) : BoO w (l, A, c) := own_lower h (Nat.zero_le _)
theorem BoO.rd {w : World} {p : BoP} (h : BoO w p) : RdB w p.2.1 p.1.length p.1 := by
  obtain ⟨A, c, e, h1, _, _⟩ := rdB_of_own h rfl
  cases e
  exact h1
structure BRows (w : World) (base : Nat) (v : Value) (ps : List BoP) : Prop where
  row : w.ownsRow base 85 1 v ps.length (ps.map BoP.v)
  all : ∀ p ∈ ps, BoO w p
theorem BRows.nil (w : World) (base : Nat) : BRows w base (.slice none 0 0) [] := ⟨World.ownsRow_nil _ _ _ _, by simp⟩
theorem BRows.far {w w' : World} {base : Nat} {v : Value} {ps : List BoP} {row : Option Nat} (h : BRows w base v ps) (hg : w.grownBy w' row) (hr : ∀ r, row = some r → ∃ o : Obj, w.heap[r]? = some o ∧ (∀ cs m, o ≠ .cells cs 4 m) ∧ ∀ cs m, o ≠ .cells cs 85 m) : BRows w' base v ps :=
  ⟨own_far h.row hg (fun r e => .inr (by obtain ⟨o, h1, _, h2⟩ := hr r e; exact ⟨o, h1, h2⟩)), fun p hp => (h.all p hp).far hg (fun r e => by obtain ⟨o, h1, h2, _⟩ := hr r e; exact ⟨o, h1, h2⟩)⟩
theorem BRows.snoc {w w' : World} {base : Nat} {v v' : Value} {ps : List BoP} {p : BoP} (h : BRows w base v ps) (hp : BoO w p) (hg : w.grownBy w' v.ownBlock) (hown : w'.ownsRow base 85 1 v' (ps.length + 1) (ps.map BoP.v ++ [BoP.v p])) : BRows w' base v' (ps ++ [p]) := by
  refine ⟨by rw [List.length_append, List.map_append]; exact hown, fun q hq => ?_⟩
  have hq' : BoO w q := by
    rcases List.mem_append.1 hq with hq | hq
    · exact h.all q hq
    · rw [List.mem_singleton] at hq; subst hq; exact hp
  exact hq'.far hg (own_typed h.row (by decide))
theorem infoBs : (Try.prog.info? 85).map (fun i => (i.zero, i.size, i.bytes)) = some (some (.slice none 0 0), 1, 24) := by kernel_rfl

/-- Has a basic node failed at a tick, by some spans? -/
def spB (l : List Sp) (i k : Nat) : Bool := l.any fun s => s.nd == (i : Int) && (decide (s.a ≤ (k : Int)) && decide ((k : Int) < s.b))
/-- For how many ticks it is so of each node, where the first i have had tick k. -/
def longR (t : List Nd) (B : Nat → Nat → Bool) (n k i : Nat) : List Int := (List.range n).map fun m => match t[m]? with | some x => (longF (rawF t B m x) (if m < i then k + 1 else k) : Int) | none => 0
theorem longF_le (raw : Nat → Bool) : ∀ k, longF raw k ≤ k
  | 0 => Nat.le_refl _
  | k + 1 => by rw [longF]; split; have := longF_le raw k; omega; omega
theorem longR_get {t : List Nd} {B : Nat → Nat → Bool} {n k i m : Nat} {x : Nd} (hm : m < n) (hx : t[m]? = some x) : (longR t B n k i)[m]? = some (longF (rawF t B m x) (if m < i then k + 1 else k) : Int) := by
  unfold longR
  rw [List.getElem?_map, List.getElem?_range hm, Option.map_some, hx]
theorem longR_set {t : List Nd} {B : Nat → Nat → Bool} {n k i : Nat} {x : Nd} (hi : i < n) (hx : t[i]? = some x) : (longR t B n k i).set i (longF (rawF t B i x) (k + 1) : Int) = longR t B n k (i + 1) := by
  unfold longR
  apply List.ext_getElem?
  intro j
  by_cases hj : j < n
  · by_cases e : i = j
    · subst e
      rw [List.getElem?_set_self (by simp; exact hi), List.getElem?_map, List.getElem?_range hi, Option.map_some, hx]
      dsimp only
      rw [if_pos (by omega)]
    · rw [List.getElem?_set_ne e, List.getElem?_map, List.getElem?_map, List.getElem?_range hj, Option.map_some, Option.map_some]
      congr 1
      cases t[j]? with
      | none => rfl
      | some y =>
        dsimp only
        by_cases h2 : j < i
        · rw [if_pos h2, if_pos (by omega)]
        · rw [if_neg h2, if_neg (by omega)]
  · rw [List.getElem?_eq_none (by simp; omega), List.getElem?_eq_none (by simp; omega)]
theorem longR_next (t : List Nd) (B : Nat → Nat → Bool) (n k : Nat) : longR t B n k n = longR t B n (k + 1) 0 := by
  unfold longR
  refine List.map_congr_left fun m hm => ?_
  rw [List.mem_range] at hm
  rw [if_pos hm, if_neg (by omega)]
theorem longR_start (t : List Nd) (B : Nat → Nat → Bool) (n : Nat) : (madeCells (Value.int .i64 0).cells (n * 1)).toList = (longR t B n 0 0).map (Value.int .i64) := by
  rw [atX_start t 0 n]
  congr 1
  unfold atX longR
  refine List.map_congr_left fun m _ => ?_
  rw [if_neg (by omega)]
  cases t[m]? with
  | none => rfl
  | some x =>
    dsimp only
    rw [if_neg (by omega)]
    rfl
theorem longR_len (t : List Nd) (B : Nat → Nat → Bool) (n k i : Nat) : (longR t B n k i).length = n := by unfold longR; simp
def rowB (t : List Nd) (B : Nat → Nat → Bool) (n k : Nat) : List Bool := (List.range n).map fun i => ft t B i k
/-- New rows of bools: which nodes have failed, for each tick. -/
def RanPost (w : World) (t : List Nd) (B : Nat → Nat → Bool) (n N : Nat) (e : Ending) (w' : World) : Prop :=
  ∃ v ps, e = .returned v ∧ BRows w' w.heap.size v ps ∧ ps.map (·.1) = (List.range N).map (rowB t B n) ∧ Below w.heap.size w w'
end Go.Proofs.Ytadldndpphdmpaa
