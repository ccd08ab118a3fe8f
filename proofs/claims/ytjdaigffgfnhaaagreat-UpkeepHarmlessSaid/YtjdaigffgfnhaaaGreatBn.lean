import Derived.Test.YtjdaigffgfnhaaaGreatOr
namespace Go.Proofs.YtjdaigffgfnhaaaGreat
open Go.RowKit

/-- All that lay lies as it lay, but for some blocks. -/
structure KeepEx (ex : Nat → Prop) (w w' : World) : Prop where
  os : w'.os = w.os
  tape : w'.tape = w.tape
  output : w'.output = w.output
  size : w.heap.size ≤ w'.heap.size
  block : ∀ k, k < w.heap.size → ¬ ex k → w'.heap[k]? = w.heap[k]?

section
variable {ex : Nat → Prop} {a b c w w' : World}
theorem KeepEx.refl (ex : Nat → Prop) (w : World) : KeepEx ex w w := ⟨rfl, rfl, rfl, Nat.le_refl _, fun _ _ _ => rfl⟩
theorem KeepEx.trans (h : KeepEx ex a b) (k : KeepEx ex b c) : KeepEx ex a c :=
  ⟨k.os.trans h.os, k.tape.trans h.tape, k.output.trans h.output, Nat.le_trans h.size k.size, fun i hi hn => (k.block i (Nat.lt_of_lt_of_le hi h.size) hn).trans (h.block i hi hn)⟩
theorem KeepEx.of_below (h : Below w.heap.size w w') : KeepEx ex w w' := ⟨h.os, h.tape, h.output, h.size, fun i hi _ => h.block i hi⟩
theorem KeepEx.below (h : KeepEx ex a b) (k : Below b.heap.size b c) : KeepEx ex a c := h.trans (.of_below k)
theorem KeepEx.alloc (h : KeepEx ex a b) (o : Obj) : KeepEx ex a (b.alloc o) := h.below ((Below.refl _ _).alloc (Nat.le_refl _) _)
theorem KeepEx.setCell (h : KeepEx ex a b) {p : Addr} (hp : ex p.block) (u : Value) : KeepEx ex a (b.setCell p u) :=
  ⟨h.os, h.tape, h.output, by simpa [World.setCell] using h.size, fun i hi hn => (Below.heap_setCell b p u i (fun e => hn (by rw [e]; exact hp))).trans (h.block i hi hn)⟩
theorem KeepEx.grown {row : Option Nat} (h : KeepEx ex a b) (k : b.grownBy c row) (hr : ∀ r, row = some r → ex r) : KeepEx ex a c :=
  ⟨k.os.trans h.os, k.tape.trans h.tape, k.output.trans h.output, Nat.le_trans h.size k.size, fun i hi hn => (k.block i (Nat.lt_of_lt_of_le hi h.size) (fun e => hn (hr i e.symm))).trans (h.block i hi hn)⟩
theorem KeepEx.drew (h : KeepEx ex a b) : KeepEx ex a b.drew := ⟨h.os, h.tape, h.output, h.size, h.block⟩
theorem KeepEx.blk {g : Nat} {t : TypeId} {cs : Array Value} (k : KeepEx ex w w') (h : Blk w g t cs) (hg : ¬ ex g) : Blk w' g t cs := (k.block g h.lt hg).trans h
theorem KeepEx.cell {p : Addr} {v : Value} (k : KeepEx ex w w') (h : w.cell? p = some v) (hp : ¬ ex p.block) : w'.cell? p = some v := (World.cell?_of_block (k.block p.block (cell_lt h) hp)).trans h
end

theorem block_add (a : Addr) (n : Nat) : (a.add n).block = a.block := by unfold Addr.add; split <;> rfl

/-- A slice that reads as a list, none of whose cells lies in some blocks. -/
def RdX {α : Type} (ex : Nat → Prop) (enc : α → List Value) (k : Nat) (w : World) (A : Option Addr) (n : Nat) (xs : List α) : Prop :=
  Rd enc k w A n xs ∧ ∀ ad, 0 < n → A = some ad → ¬ ex ad.block
theorem RdX.keep {α : Type} {ex : Nat → Prop} {enc : α → List Value} {k : Nat} {w w' : World} {A : Option Addr} {n : Nat} {xs : List α} (h : RdX ex enc k w A n xs) (hk : KeepEx ex w w') : RdX ex enc k w' A n xs :=
  ⟨⟨h.1.1, fun i x hx => by
    obtain ⟨ad, e, ha⟩ := h.1.2 i x hx
    have hn : 0 < n := by have := (List.getElem?_eq_some_iff.1 hx).1; have := h.1.1; omega
    exact ⟨ad, e, fun j v hj => hk.cell (ha j v hj) (by rw [block_add, block_add]; exact h.2 ad hn e)⟩⟩, h.2⟩

theorem RdX.keepL {α : Type} {ex ex' : Nat → Prop} {enc : α → List Value} {k : Nat} {w w' : World} {A : Option Addr} {n : Nat} {xs : List α} (h : RdX ex' enc k w A n xs) (hk : KeepEx ex w w') (hi : ∀ k, ex k → ex' k) : RdX ex' enc k w' A n xs :=
  ⟨⟨h.1.1, fun i x hx => by
    obtain ⟨ad, e, ha⟩ := h.1.2 i x hx
    have hn : 0 < n := by have := (List.getElem?_eq_some_iff.1 hx).1; have := h.1.1; omega
    exact ⟨ad, e, fun j v hj => hk.cell (ha j v hj) (by rw [block_add, block_add]; exact fun hx => h.2 ad hn e (hi _ hx))⟩⟩, h.2⟩

/-- A planner in memory, outside of some blocks. -/
structure PlX (ex : Nat → Prop) (w : World) (p : Nat) (t : Task) (A : Option Addr) (n c : Nat) (A' : Option Addr) (n' c' : Nat) : Prop where
  blk : ∃ S cap, Blk w p 152 (t.pval A n c A' n' c' (.slice S n' cap)) ∧ RdX ex seaEnc 365 w S n' (t.works.map (seaOf t))
  out : ¬ ex p
  highs : RdX ex High.enc 3 w A n t.rd.highs
  works : RdX ex Work.enc 7 w A' n' t.works
theorem PlX.keep {ex : Nat → Prop} {w w' : World} {p : Nat} {t : Task} {A : Option Addr} {n c : Nat} {A' : Option Addr} {n' c' : Nat} (h : PlX ex w p t A n c A' n' c') (hk : KeepEx ex w w') : PlX ex w' p t A n c A' n' c' := by
  obtain ⟨S, cap, h1, h2⟩ := h.blk
  exact ⟨⟨S, cap, hk.blk h1 h.out, h2.keep hk⟩, h.out, h.highs.keep hk, h.works.keep hk⟩
theorem PlX.pl {ex : Nat → Prop} {w : World} {p : Nat} {t : Task} {A : Option Addr} {n c : Nat} {A' : Option Addr} {n' c' : Nat} (h : PlX ex w p t A n c A' n' c') : Pl w p t A n c A' n' c' := by
  obtain ⟨S, cap, h1, h2⟩ := h.blk
  exact ⟨⟨S, cap, h1, h2.1⟩, h.highs.1, h.works.1⟩

/-- The starts of each work in memory. -/
def CanX (ex : Nat → Prop) (w : World) (t : Task) (Ac : Option Addr) : Prop :=
  ∀ (i : Nat) (x : Work), t.works[i]? = some x → ∃ ad Ai ci, Ac = some ad ∧ ¬ ex ad.block ∧ w.cell? (ad.add i) = some (.slice Ai (startsF t x).length ci) ∧ RdX ex (fun z : Int => [Value.int .i64 z]) 1 w Ai (startsF t x).length (startsF t x)
theorem CanX.keep {ex : Nat → Prop} {w w' : World} {t : Task} {Ac : Option Addr} (h : CanX ex w t Ac) (hk : KeepEx ex w w') : CanX ex w' t Ac := fun i x hx => by
  obtain ⟨ad, Ai, ci, h1, h2, h3, h4⟩ := h i x hx
  exact ⟨ad, Ai, ci, h1, h2, hk.cell h3 (by rw [block_add]; exact h2), h4.keep hk⟩

/-- What has been found. -/
abbrev Acc := Option (List Int × (Int × Int))
def accStep (t : Task) (acc : Acc) (ss : List Int) : Acc :=
  if gtB (harmR t ss) t.plan then acc
  else match acc with
    | none => some (ss, harmR t ss)
    | some q => if gtB q.2 (harmR t ss) then some (ss, harmR t ss) else acc
def dfs (t : Task) : Nat → Acc → List Int → Acc
  | 0, acc, ss => accStep t acc ss
  | k + 1, acc, ss => match t.works[ss.length]? with
    | none => acc
    | some x => (startsF t x).foldl (fun acc s => if anyMeet t (ss ++ [s]) ss.length then acc else dfs t k acc (ss ++ [s])) acc

/-- The blocks of the variables of Best. -/
structure Vars where
  bn : Nat
  bt : Nat
  bp : Nat
  bf : Nat
  bl : Nat
  bs : Nat
  bc : Nat
  bx : Nat
  R : Nat
def Vars.ex (V : Vars) (k : Nat) : Prop := k = V.bn ∨ k = V.bf ∨ k = V.bl ∨ k = V.bs ∨ k = V.R
/-- The same, and the blocks of the results and what lay before them. -/
def Vars.exL (V : Vars) (k : Nat) : Prop := V.ex k ∨ k ≤ V.bt + 2
def Vars.ptrs (V : Vars) : Array Value := #[.pointer (some ⟨V.bn, 0, none⟩), .pointer (some ⟨V.bt, 0, none⟩), .pointer (some ⟨V.bp, 0, none⟩), .pointer (some ⟨V.bf, 0, none⟩), .pointer (some ⟨V.bl, 0, none⟩), .pointer (some ⟨V.bs, 0, none⟩), .pointer (some ⟨V.bc, 0, none⟩), .pointer (some ⟨V.bx, 0, none⟩)]

/-- What does not turn while plans are looked for. -/
structure Fix (V : Vars) (w : World) (t : Task) (p : Nat) (A : Option Addr) (n c : Nat) (A' : Option Addr) (n' c' : Nat) (Ac : Option Addr) (cc : Nat) : Prop where
  pl : PlX V.ex w p t A n c A' n' c'
  can : CanX V.ex w t Ac
  tb : Blk w V.bt 73 (t.val A n c A' n' c')
  pb : Blk w V.bp 118 #[.pointer (some ⟨p, 0, none⟩)]
  cb : Blk w V.bc 121 #[.slice Ac n' cc]
  xb : Blk w V.bx 1 #[.func (.func 47) #[] V.ptrs]
  o1 : ¬ V.ex V.bt
  o2 : ¬ V.ex V.bp
  o3 : ¬ V.ex V.bc
  o4 : ¬ V.ex V.bx
theorem Fix.keep {V : Vars} {w w' : World} {t : Task} {p : Nat} {A : Option Addr} {n c : Nat} {A' : Option Addr} {n' c' : Nat} {Ac : Option Addr} {cc : Nat} (h : Fix V w t p A n c A' n' c' Ac cc) (hk : KeepEx V.ex w w') : Fix V w' t p A n c A' n' c' Ac cc :=
  ⟨h.pl.keep hk, h.can.keep hk, hk.blk h.tb h.o1, hk.blk h.pb h.o2, hk.blk h.cb h.o3, hk.blk h.xb h.o4, h.o1, h.o2, h.o3, h.o4⟩

/-- The variables that turn. -/
def AccM (V : Vars) (w : World) (acc : Acc) : Prop :=
  match acc with
  | none => Blk w V.bf 4 #[.bool false] ∧ (∃ x y : Int, Blk w V.bl 66 #[.int .i64 x, .int .i64 y] ∧ (0 ≤ x ∧ x ≤ 1000) ∧ 0 ≤ y ∧ y ≤ 1000) ∧ ∃ v, Blk w V.bs 31 #[v]
  | some q => Blk w V.bf 4 #[.bool true] ∧ Blk w V.bl 66 #[.int .i64 q.2.1, .int .i64 q.2.2] ∧ ((0 ≤ q.2.1 ∧ q.2.1 ≤ 1000) ∧ 0 ≤ q.2.2 ∧ q.2.2 ≤ 1000) ∧ ∃ A c, Blk w V.bs 31 #[.slice A q.1.length c] ∧ RdX V.exL (fun z : Int => [Value.int .i64 z]) 1 w A q.1.length q.1 ∧ q.1.length ≤ c
def NowM (V : Vars) (w : World) (n' : Nat) (ss : List Int) (j : Nat) : Prop := Blk w V.bn 31 #[.slice (some ⟨V.R, 0, none⟩) j n'] ∧ w.ownsRow 0 3 1 (.slice (some ⟨V.R, 0, none⟩) ss.length n') ss.length (ss.map (Value.int .i64))

end Go.Proofs.YtjdaigffgfnhaaaGreat
