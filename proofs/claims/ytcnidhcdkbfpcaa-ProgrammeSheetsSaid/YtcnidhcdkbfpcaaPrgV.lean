/- The states' map: keys, what it holds. -/
import Derived.Maps.OwnSet
import Derived.Maps.OwnOps
import Derived.DeepKeys4
import Derived.Test.YtcnidhcdkbfpcaaPrgU
namespace Go.Proofs.Ytcnidhcdkbfpcaa
open Go.RowKit Go.Bs Go.Pg Go.Pl Go.Sort
theorem kt90 : Try.prog.keyType 90 = true := by kernel_rfl
theorem ts178 : Try.prog.types.size = 178 := by kernel_rfl
theorem co90 : Try.prog.cellsOf 90 = 3 := by kernel_rfl
theorem co47 : Try.prog.cellsOf 47 = 1 := by kernel_rfl
theorem co3 : Try.prog.cellsOf 3 = 1 := by kernel_rfl
theorem laidOut : laidOutB Try.prog = true := by kernel_rfl
theorem row90 : (90 : TypeId) < Try.prog.types.size := of_decide_eq_true (by kernel_rfl)
theorem kta90 : Try.prog.keyTypeAt 2 90 = true := by kernel_rfl
set_option maxRecDepth 100000 in
theorem law90 : Maps.Keyed Try.prog 90 := by
  have h := @deep_law_laid Try.prog laidOut 2 (by omega) 90 row90 kta90
  rw [Try.underlying90] at h
  exact Maps.Keyed.of_law (h rfl)
theorem zero3 (w : World) : (zeroValue 3).run Try.prog w = .ok (.int .i64 0) w := by kernel_rfl
theorem lits47 (d : Nat) (n : Int) (h : (Lit.int .u16 n).wf = true) : Try.prog.keyLits (d + 1) 47 [.int .u16 n] = some [.int .u16 n] := by
  unfold Program.keyLits
  rw [Try.underlying47]
  simp only [h, and_self, if_true]
theorem lits3 (d : Nat) (n : Int) (h : (Lit.int .i64 n).wf = true) : Try.prog.keyLits (d + 1) 3 [.int .i64 n] = some [.int .i64 n] := by
  unfold Program.keyLits
  rw [Try.underlying3]
  simp only [h, and_self, if_true]
theorem lits90 (d : Nat) (a b c : Int) (h1 : (Lit.int .u16 a).wf = true) (h2 : (Lit.int .i64 b).wf = true) (h3 : (Lit.int .i64 c).wf = true) :
    Try.prog.keyLits (d + 1 + 1) 90 [.int .u16 a, .int .i64 b, .int .i64 c] = some [.int .u16 a, .int .i64 b, .int .i64 c] := by
  unfold Program.keyLits
  rw [Try.underlying90]
  simp [co90, co47, co3, lits47 d a h1, lits3 d b h2, lits3 d c h3]
theorem key_some (x : St) (h1 : x.set < 65536) (h2 : x.last < 65536) (h3 : x.sec < 65536) : ∃ kl, keyOf Try.prog 90 (St.val x) = some kl := by
  obtain ⟨set, last, sec⟩ := x
  simp only at h1 h2 h3
  have hf : (St.val ⟨set, last, sec⟩).formed Try.prog 90 = true := by simp [St.val, Value.formed, Try.underlying90, co90]
  have hl := lits90 177 set last sec (WalkArith.wf_u16 (by omega)) (WalkArith.wf_i64 (by omega)) (WalkArith.wf_i64 (by omega))
  refine ⟨.string (keyBytes [.int .u16 set, .int .i64 last, .int .i64 sec]), ?_⟩
  rw [keyOf, Try.underlying90]
  simp only [kt90, hf, Bool.true_and, if_true]
  rw [ts178]
  show Option.map _ (Try.prog.keyLits (177 + 1 + 1) 90 [.int .u16 (set : Int), .int .i64 (last : Int), .int .i64 (sec : Int)]) = _
  rw [hl]
  rfl
/-- What the map in block B holds: of states, their least costs. (At most n entries.) -/
def MapG (s : Sh) (W : World) (B n : Nat) : Prop :=
  ∃ D : DataW Unit, W.ownsMap Try.prog 90 (plainElem Try.prog 3) B n D ∧ ∀ (x : St) (kl : Lit), keyOf Try.prog 90 (St.val x) = some kl → Maps.has D kl = true → ∀ z, D.atKey kl z = .lit (.int .i64 (s.best x))
section
variable {s : Sh} {W W' : World} {B n : Nat}
theorem MapG.made (s : Sh) (w : World) : MapG s (w.alloc (.map #[] 0)) w.heap.size 0 :=
  ⟨.map [], World.ownsMap_made _ _ _ _, fun x kl _ h => by cases h⟩
theorem MapG.mono (h : MapG s W B n) {m : Nat} (hm : n ≤ m) : MapG s W B m := by
  obtain ⟨D, h1, h2⟩ := h
  exact ⟨D, h1.mono hm, h2⟩
theorem MapG.kept {row : Option Nat} (h : MapG s W B n) (hg : W.grownBy W' row) (hne : some B ≠ row) : MapG s W' B n := by
  obtain ⟨D, h1, h2⟩ := h
  exact ⟨D, h1.kept hg hne, h2⟩
theorem MapG.ext (h : MapG s W B n) (hb : Below W.heap.size W W') : MapG s W' B n := h.kept (grown_of_ext hb none) (by simp)
theorem MapG.lt (h : MapG s W B n) : B < W.heap.size := by obtain ⟨D, h1, -⟩ := h; exact h1.lt
theorem MapG.set (h : MapG s W B n) {p : Addr} (hp : B ≠ p.block) (u : Value) : MapG s (W.setCell p u) B n :=
  h.kept (grownBy_setCell W p u) (fun e => hp (by cases e; rfl))
theorem MapG.alloc (h : MapG s W B n) (o : Obj) : MapG s (W.alloc o) B n := h.ext (ext_alloc W o)
end
theorem stVal_inj {x y : St} (h : St.val x = St.val y) : x = y := by
  obtain ⟨a, b, c⟩ := x
  obtain ⟨d, e, f⟩ := y
  simp [St.val] at h
  obtain ⟨h1, h2, h3⟩ := h
  have : a = d := by omega
  have : b = e := by omega
  have : c = f := by omega
  subst_vars; rfl
/-- what a put keeps right -/
theorem good_put {s : Sh} {D : DataW Unit} {x0 : St} {kl0 : Lit} (hm : Maps.IsMap D) (hk : keyOf Try.prog 90 (St.val x0) = some kl0)
    (h : ∀ (x : St) (kl : Lit), keyOf Try.prog 90 (St.val x) = some kl → Maps.has D kl = true → ∀ z, D.atKey kl z = .lit (.int .i64 (s.best x))) :
    ∀ (x : St) (kl : Lit), keyOf Try.prog 90 (St.val x) = some kl → Maps.has (D.put kl0 (.lit (.int .i64 (s.best x0)))) kl = true → ∀ z, (D.put kl0 (.lit (.int .i64 (s.best x0)))).atKey kl z = .lit (.int .i64 (s.best x)) := by
  intro x kl hx hh z
  by_cases e : kl = kl0
  · subst e
    have hxx := stVal_inj (law90.inj hx hk)
    subst hxx
    exact Maps.atKey_put_same hm (law90.key hk) _ z
  · rw [Maps.has_put_other e] at hh
    rw [Maps.atKey_put_other e]
    exact h x kl hx hh z
/-- how many stores a search may make -/
def updN : Nat → Nat
  | 0 => 1
  | k + 1 => 1 + 8 * updN k
theorem updN_le {k m : Nat} (h : k ≤ m) : updN k ≤ updN m := by
  induction m with
  | zero => obtain rfl : k = 0 := by omega
            exact Nat.le_refl _
  | succ m ih =>
    by_cases e : k = m + 1
    · rw [e]; exact Nat.le_refl _
    · have := ih (by omega)
      have h2 : updN (m + 1) = 1 + 8 * updN m := rfl
      omega
theorem updN_8 {k : Nat} (h : k ≤ 8) : updN k ≤ 100000000 := Nat.le_trans (updN_le h) (by decide)
/-- what the closure's boxes hold -/
structure OfM (w0 : World) (s : Sh) (p : ShP) (F S G O B : Nat) (W : World) : Prop where
  bl : Below w0.heap.size w0 W
  f : Blk W F 109 [.map (some B)]
  sb : Blk W S 35 (shC s p)
  g : Blk W G 114 [.func (.func 71) #[shV s p] #[]]
  o : Blk W O 85 [.func (.func 96) #[] #[.pointer (some ⟨F, 0, none⟩), .pointer (some ⟨S, 0, none⟩), .pointer (some ⟨G, 0, none⟩), .pointer (some ⟨O, 0, none⟩)]]
  hB : w0.heap.size ≤ B
  ne : B ≠ F ∧ B ≠ S ∧ B ≠ G ∧ B ≠ O
section
variable {w0 W W' : World} {s : Sh} {p : ShP} {F S G O B : Nat}
theorem OfM.bel (h : OfM w0 s p F S G O B W) (hb : Dr.Bel [B] W W') : OfM w0 s p F S G O B W' := by
  obtain ⟨n1, n2, n3, n4⟩ := h.ne
  exact ⟨h.bl.trans (hb.old h.bl.size (by have := h.hB; simp; omega)), hb.blk h.f (by simp; omega), hb.blk h.sb (by simp; omega), hb.blk h.g (by simp; omega), hb.blk h.o (by simp; omega), h.hB, h.ne⟩
theorem OfM.ext (h : OfM w0 s p F S G O B W) (hb : Below W.heap.size W W') : OfM w0 s p F S G O B W' := h.bel (.of hb)
end
end Go.Proofs.Ytcnidhcdkbfpcaa
