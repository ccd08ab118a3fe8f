/- A task of closing, and the look for a polder that has too much. -/
import Derived.Test.YtjdaigffgfnhaaaGreatKa
import Derived.Test.YtjdaigffgfnhaaaGreatKp
namespace Go.Proofs.YtjdaigffgfnhaaaGreat
open Go.RowKit

/-- A task of closing with one history that begins at tick 0, and rivers that bring nothing. -/
structure Clt where
  bas : Bas
  filled : List Int
  hv : List Int
  out : Int
  limit : Int
  delay : Int
/-- Where it lies. -/
structure ClM where
  A : Option Addr
  n : Nat
  c : Nat
  A' : Option Addr
  n' : Nat
  c' : Nat
  Af : Option Addr
  nf : Nat
  cf : Nat
  hb : Nat
  ch : Nat
  Ah : Option Addr
  nh : Nat
  cv : Nat
  Ar : Option Addr
  cr : Nat
abbrev Clt.val (t : Clt) (m : ClM) : Array Value := #[.slice m.A m.n m.c, .int .i64 t.bas.leak, .int .i64 t.bas.crest, .int .i64 t.bas.over, .slice m.A' m.n' m.c', .slice m.Af m.nf m.cf, .slice (some ⟨m.hb, 0, none⟩) 1 m.ch, .slice m.Ar m.nh m.cr, .int .i64 t.out, .int .i64 t.limit, .int .i64 t.delay]
structure ClR (w : World) (t : Clt) (m : ClM) : Prop where
  rows : RdR w m.A m.n t.bas.rows
  pols : RdP w m.A' m.n' t.bas.pols
  filled : RdI w m.Af m.nf t.filled
  h0 : w.cell? ⟨m.hb, 0, none⟩ = some (.int .i64 0)
  h1 : w.cell? ⟨m.hb, 1, none⟩ = some (.slice m.Ah m.nh m.cv)
  vals : RdI w m.Ah m.nh t.hv
  river : RdI w m.Ar m.nh (List.replicate m.nh 0)
  cap : m.n ≤ m.c
  nms : ∀ (i : Nat) (v : Pol), t.bas.pols[i]? = some v → v.nm.size ≤ 9223372036854775807
  bigh : m.nh ≤ 1000000000000000
theorem ClR.below {w w' : World} {t : Clt} {m : ClM} (h : ClR w t m) (hb : Below w.heap.size w w') : ClR w' t m :=
  ⟨h.rows.below hb, h.pols.below hb, h.filled.below hb, cell_below hb h.h0, cell_below hb h.h1, h.vals.below hb, h.river.below hb, h.cap, h.nms, h.bigh⟩

/-- Has polder j too much in it? -/
def fullP (t : Clt) (j : Nat) : Bool := match t.filled[j]?, t.bas.pols[j]? with
  | some n, some p => outB n 0 p.room
  | _, _ => false
theorem fullP_any (t : Clt) : ((List.range t.filled.length).any fun i => match t.filled[i]?, t.bas.pols[i]? with
    | some n, some p => outB n 0 p.room
    | _, _ => false) = decide (0 ≤ idxF (fullP t) 0 (t.filled.length - 0)) := by
  rw [Bool.eq_iff_iff, decide_eq_true_eq, idxF_neg, List.any_eq_true]
  constructor
  · rintro ⟨j, hj, h⟩
    exact ⟨j, Nat.zero_le _, by simpa using hj, h⟩
  · rintro ⟨j, _, hj, h⟩
    exact ⟨j, by simpa using hj, h⟩

set_option maxHeartbeats 1000000 in
theorem chk3_any (t : Clt) (A' : Option Addr) (n' c' : Nat) (Bx j : Nat) (v : Int) (w : World) (hp : RdP w A' n' t.bas.pols) (hx : w.cell? ⟨Bx, 4, none⟩ = some (.slice A' n' c')) (hj : j < n') (hv : t.filled[j]? = some v) :
    Calls Tryz.prog 24 #[.int .i64 j, .int .i64 v, .pointer (some ⟨Bx, 0, none⟩)] w fun e w' => e = .returned (.bool (fullP t j)) ∧ w = w' := by
  obtain ⟨p, ad, hpj, rfl, ha⟩ := hp.get hj
  obtain ⟨c0, c1, c2, c3⟩ := ha.four
  have hf : fullP t j = outB v 0 p.room := by unfold fullP; rw [hv, hpj]
  rw [hf]
  clear hf hpj hp ha hv c0 c1 c2
  go_enter Tryz.func24, Tryz.ntmps24
  go_wp2_with (go_at_call 19; refine (cout_any _ _ _ _).mono ?_; rintro e w' ⟨rfl, rfl⟩)
  go_ret
  exact ⟨rfl, rfl⟩
set_option maxHeartbeats 1000000 in
theorem whereF_any (t : Clt) (Af : Option Addr) (n cf : Nat) (A' : Option Addr) (c' : Nat) (Bx : Nat) (w : World) (hf : RdI w Af n t.filled) (hp : RdP w A' n t.bas.pols) (hn : n ≤ 1000000000000000) (hx : w.cell? ⟨Bx, 4, none⟩ = some (.slice A' n c')) :
    Calls Tryz.prog 23 #[.slice Af n cf, .func (.func 24) #[] #[.pointer (some ⟨Bx, 0, none⟩)]] w fun e w' => e = .returned (.int .i64 (idxF (fullP t) 0 (n - 0))) ∧ Below w.heap.size w w' := by
  generalize hX : idxF (fullP t) 0 (n - 0) = X
  have HX := Lib.hid hX; clear hX
  have HS := Lib.hid hf; clear hf
  have HP := Lib.hid hp; clear hp
  go_enter Tryz.func23, Tryz.ntmps23
  go_wp2
  go_loopw [9] (fun q wr => ∃ k : Nat, k ≤ n ∧ q = .int .i64 k ∧ Below w.heap.size w wr ∧ idxF (fullP t) k (n - k) = X) (fun q _ => n - (intOf q).toNat)
  case atStart => exact ⟨0, Nat.zero_le _, rfl, Below.refl _ _, HX.out⟩
  case round =>
    obtain ⟨k, hk, rfl, hB, hE⟩ := hrel
    have HE := Lib.hid hE; clear hE
    have HB := Lib.hid hB; clear hB
    by_cases hlt : k < n
    · obtain ⟨v, ad, hv, rfl, c0⟩ := rdI_get (HS.out.below HB.out) hlt
      have HC := Lib.hid (chk3_any t A' n c' Bx k v wr (HP.out.below HB.out) (cell_below HB.out hx) hlt hv)
      clear hv
      cases hb : fullP t k with
      | true =>
        rw [hb] at HC
        have FIN := Lib.hid (idxF_yes hlt hb)
        clear hb
        go_wp2_with (go_at_call 24; refine HC.out.mono ?_; rintro e w2 ⟨rfl, rfl⟩)
        go_ret
        exact ⟨ret_intK (FIN.out.symm.trans HE.out), HB.out⟩
      | false =>
        rw [hb] at HC
        have FIN := Lib.hid (idxF_no hlt hb)
        clear hb
        go_wp2_with (go_at_call 24; refine HC.out.mono ?_; rintro e w2 ⟨rfl, rfl⟩)
        go_roundw
        case rel => exact ⟨k + 1, by omega, by go_num, HB.out, FIN.out.symm.trans HE.out⟩
        case measure => simp [intOf]; omega
    · have FIN := Lib.hid (idxF_end (p := fullP t) (Nat.le_of_not_lt hlt))
      go_wp2
      go_ret
      exact ⟨ret_intK (FIN.out.symm.trans HE.out), HB.out⟩
end Go.Proofs.YtjdaigffgfnhaaaGreat

namespace Go.Proofs.YtjdaigffgfnhaaaGreat
open Go.RowKit

/-- A game whose history is never above the limit. -/
abbrev Clt.game (t : Clt) (m : ClM) (mb : Nat) : Array Value := #[.slice m.A m.n m.c, .int .i64 t.bas.leak, .int .i64 t.bas.crest, .int .i64 t.bas.over, .slice m.A' m.n' m.c', .slice m.Af m.nf m.cf, .slice (some ⟨m.hb, 0, none⟩) 1 m.ch, .slice m.Ar m.nh m.cr, .int .i64 t.out, .int .i64 t.limit, .int .i64 t.delay,
  .int .i64 0, .int .i64 m.nh, .int .i64 0, .map (some mb)]
def GmB (w : World) (t : Clt) (m : ClM) (gb : Nat) : Prop := ∃ mb, Blk w gb 136 (t.game m mb)
theorem GmB.later {w w' : World} {t : Clt} {m : ClM} {gb : Nat} (h : GmB w t m gb) (hb : Below w.heap.size w w') : GmB w' t m gb := ⟨_, h.choose_spec.later hb⟩
theorem GmB.lt {w : World} {t : Clt} {m : ClM} {gb : Nat} (h : GmB w t m gb) : gb < w.heap.size := h.choose_spec.lt
/-- A game with rules. -/
def RlB (w : World) (t : Clt) (m : ClM) (rb : Nat) : Prop := ∃ gb, Blk w rb 99 #[.pointer (some ⟨gb, 0, none⟩), .int .i64 1, .int .i64 60] ∧ GmB w t m gb
theorem RlB.later {w w' : World} {t : Clt} {m : ClM} {gb : Nat} (h : RlB w t m gb) (hb : Below w.heap.size w w') : RlB w' t m gb := ⟨_, h.choose_spec.1.later hb, h.choose_spec.2.later hb⟩
end Go.Proofs.YtjdaigffgfnhaaaGreat
