/- append as an operation of its own (for regions that draw); two rows of the call's own that lie apart; some new rows of zeros. -/
import Derived.Test.YtnjdlhhgnamigaaGround
namespace Go.Bs
open Go.RowKit Go.Sort Go.Pl Go.Dr

theorem wp_app1 {P : Program} {o : Oper} {a : Act} {K : Act → World → Prop} {Q : Exit → Act → World → Prop} {w : World} {α : Type} (enc : α → List Value) (t e : TypeId) (sz bytes : Nat) (hT : ElemT P t e sz bytes) (hsz : 0 < sz) (hby : bytes ≤ 1000)
    (hen : ∀ x, (enc x).length = sz) (h1c : ∀ x, ∀ u ∈ enc x, u.oneCell' = true) (s x : Operand)
    (ho : o.op = .call { callee := .builtin .append, args := #[s, x], argTypes := #[t, t] }) (base : Nat) (v : Value) (l : List α) (hs : a.eval s = v) (hown : OwnL w base e sz enc v l)
    (g : Nat) (hx : a.eval x = .slice (some ⟨g, 0, none⟩) 1 1) (y : α) (hc : ∀ j u, (enc y)[j]? = some u → w.cell? ⟨g, j, none⟩ = some u) (hlen : l.length ≤ 1000000) (hbase : base ≤ w.heap.size)
    (h : ∀ g' cap w', OwnL w' base e sz enc (.slice (some ⟨g', 0, none⟩) (l.length + 1) cap) (l ++ [y]) → Below base w w' → w.grownBy w' v.ownBlock → (v.ownBlock = some g' ∨ g' = w.heap.size) → K (a.put o.dst (.slice (some ⟨g', 0, none⟩) (l.length + 1) cap)) w') :
    o.wp P a w K Q := by
  obtain ⟨i, z, ht, hi, hz, hs1, hb1, hz1⟩ := hT
  have hmul : (l.length + 1) * bytes ≤ 1000001 * 1000 := Nat.mul_le_mul (by omega) hby
  refine wp_append_lies w s x t ho base e i z sz bytes ht hi hz hs1 hb1 hz1 hsz v l.length (l.flatMap enc) hs hown ⟨g, 0, none⟩ 1 1 (enc y) hx (by rw [hen]; omega) ?_ (h1c y) (by omega) (by unfold maxLen; omega) (by omega) hbase w.heap.size rfl ?_
  · intro j u hj
    have := hc j u hj
    unfold Addr.add
    split
    · rename_i h0; subst h0; exact this
    · simpa using this
  · intro g' cap w' hown' hgrow hat hlt
    refine h g' cap w' ?_ ?_ hgrow hat
    · unfold OwnL
      rw [List.length_append, List.flatMap_append]
      simpa using hown'
    · exact (Below.refl base w).grown hgrow hbase (fun k hk => (hown.lt hk).1)

/-- Two rows of the call's own that lie apart; gv, gu: the blocks that are written, where there are any. -/
structure Two (base T : Nat) (W : World) (gv gu : Nat) (v u : Value) (l r : List Int) : Prop where
  ov : OwnL W base T 1 encI v l
  ou : OwnL W base T 1 encI u r
  ne : v.ownBlock = none ∨ u.ownBlock = none ∨ v.ownBlock ≠ u.ownBlock
  hv : ∀ k, v.ownBlock = some k → k = gv
  hu : ∀ k, u.ownBlock = some k → k = gu
section
variable {base T gv gu : Nat} {W W' : World} {v u : Value} {l r : List Int}
theorem Two.alloc (h : Two base T W gv gu v u l r) (o : Obj) : Two base T (W.alloc o) gv gu v u l r := ⟨h.ov.alloc o, h.ou.alloc o, h.ne, h.hv, h.hu⟩
theorem Two.ext (h : Two base T W gv gu v u l r) (hb : Below W.heap.size W W') : Two base T W' gv gu v u l r := ⟨h.ov.ext hb, h.ou.ext hb, h.ne, h.hv, h.hu⟩
theorem Two.swap (h : Two base T W gv gu v u l r) : Two base T W gu gv u v r l := ⟨h.ou, h.ov, h.ne.elim (fun h => .inr (.inl h)) (fun h => h.elim .inl (fun h => .inr (.inr (Ne.symm h)))), h.hu, h.hv⟩
/-- with the blocks known -/
theorem Two.of (h1 : OwnL W base T 1 encI v l) (h2 : OwnL W base T 1 encI u r) (h3 : v.ownBlock = none ∨ u.ownBlock = none ∨ v.ownBlock ≠ u.ownBlock) : Two base T W (v.ownBlock.getD W.heap.size) (u.ownBlock.getD W.heap.size) v u l r :=
  ⟨h1, h2, h3, fun k hk => by rw [hk]; rfl, fun k hk => by rw [hk]; rfl⟩
theorem getD_own {k B : Nat} (h1 : OwnL W base T 1 encI v l) (hB : B < base) (hbase : base ≤ W.heap.size) (hk : k = v.ownBlock.getD W.heap.size) : B ≠ k := by
  subst hk
  cases hv : v.ownBlock with
  | none => simp; omega
  | some g => have := (h1.lt hv).1; simp; omega
theorem getD_new {k : Nat} (h1 : OwnL W base T 1 encI v l) (hk : k = v.ownBlock.getD W.heap.size) : base ≤ W.heap.size → base ≤ k := by
  subst hk
  intro hb
  cases hv : v.ownBlock with
  | none => exact hb
  | some g => exact (h1.lt hv).1
theorem getD_ne {k : Nat} {w0 : World} (h1 : OwnL w0 base T 1 encI v l) (hW : w0.heap.size < W.heap.size) (hk : k = v.ownBlock.getD W.heap.size) : w0.heap.size ≠ k := by
  subst hk
  cases hv : v.ownBlock with
  | none => simp; omega
  | some g => have := (h1.lt hv).2; simp; omega
/-- the first one grows -/
theorem Two.app {g q c : Nat} {l' : List Int} (h : Two base T W gv gu v u l r) (ho : OwnL W' base T 1 encI (.slice (some ⟨g, 0, none⟩) q c) l') (hg : W.grownBy W' v.ownBlock) (hat : v.ownBlock = some g ∨ g = W.heap.size) :
    Two base T W' g gu (.slice (some ⟨g, 0, none⟩) q c) u l' r := by
  refine ⟨ho, h.ou.kept hg ?_, ?_, fun k hk => by simp [Value.ownBlock] at hk; exact hk.symm, h.hu⟩
  · rcases h.ne with h1 | h1 | h1
    · cases hx : u.ownBlock
      · exact .inl rfl
      · exact .inr (by rw [h1]; simp)
    · exact .inl h1
    · exact .inr (Ne.symm h1)
  · cases hx : u.ownBlock with
    | none => exact .inr (.inl rfl)
    | some b =>
      refine .inr (.inr ?_)
      have hb := (h.ou.lt hx).2
      show some g ≠ some b
      rcases hat with h2 | h2
      · rcases h.ne with h1 | h1 | h1
        · rw [h1] at h2; cases h2
        · rw [h1] at hx; cases hx
        · rw [← hx, ← h2]; exact h1
      · intro e; cases e; omega
theorem bel_grown {M : List Nat} {gv : Nat} (hg : W.grownBy W' v.ownBlock) (hv : ∀ k, v.ownBlock = some k → k = gv) (hM : gv ∈ M) : Bel M W W' :=
  ⟨hg.os, hg.tape, hg.output, hg.size, fun k hk hm => hg.block k hk (fun e => hm (by rw [hv k e.symm]; exact hM))⟩
end

/-- some new rows of zeros, each of n numbers -/
structure Zs (W0 W : World) (n T : Nat) (gs : List Nat) : Prop where
  nd : gs.Nodup
  at_ : ∀ g ∈ gs, W0.heap.size ≤ g ∧ IArr W g T (tab n fun _ => 0)
section
variable {W0 W W' : World} {n T : Nat} {gs : List Nat}
theorem Zs.nil (W0 W : World) (n T : Nat) : Zs W0 W n T [] := ⟨List.nodup_nil, fun g hg => by simp at hg⟩
theorem Zs.mk1 (h : Zs W0 W n T gs) (hs : W0.heap.size ≤ W.heap.size) : Zs W0 (W.alloc (.cells ((tab n fun _ => 0).map (Value.int .i64)).toArray T)) n T (W.heap.size :: gs) :=
  ⟨List.nodup_cons.2 ⟨fun hm => by have := (h.at_ _ hm).2; exact absurd (Blk.lt this) (by omega), h.nd⟩, fun g hg => by
    rcases List.mem_cons.1 hg with rfl | hg
    · exact ⟨hs, Blk.new W T _⟩
    · exact ⟨(h.at_ g hg).1, Blk.alloc (h.at_ g hg).2 _⟩⟩
theorem Zs.put (h : Zs W0 W n T gs) {p : Addr} (hp : p.block < W0.heap.size) (u : Value) : Zs W0 (W.setCell p u) n T gs :=
  ⟨h.nd, fun g hg => ⟨(h.at_ g hg).1, IArr.other (h.at_ g hg).2 (by have := (h.at_ g hg).1; omega) u⟩⟩
end

/-- a store of a whole struct: cell by cell -/
def puts (w : World) (B : Nat) : Nat → List Value → World
  | _, [] => w
  | i, v :: r => puts (w.setCell ⟨B, i, none⟩ v) B (i + 1) r
theorem Blk.puts {B T : Nat} : ∀ (r : List Value) (i : Nat) (cs : List Value) (w : World), Blk w B T cs → i + r.length = cs.length → Blk (Go.Bs.puts w B i r) B T (cs.take i ++ r)
  | [], i, cs, w, h, hl => by simpa [Go.Bs.puts, List.take_of_length_le (show cs.length ≤ i by simp at hl; omega)] using h
  | v :: r, i, cs, w, h, hl => by
    simp at hl
    have := Blk.puts r (i + 1) (cs.set i v) _ (h.set i v) (by simp; omega)
    have e : (cs.set i v).take (i + 1) ++ r = cs.take i ++ v :: r := by
      rw [List.take_succ_eq_append_getElem (by simp; omega), List.take_set_of_le (Nat.le_refl _)]
      simp
    rw [e] at this
    exact this
theorem Blk.put_all {B T : Nat} {cs r : List Value} {w : World} (h : Blk w B T cs) (hl : r.length = cs.length) : Blk (Go.Bs.puts w B 0 r) B T r := by
  have := Blk.puts r 0 cs w h (by omega)
  simpa using this
theorem bel_puts {B : Nat} : ∀ (r : List Value) (i : Nat) (w : World), Bel [B] w (puts w B i r)
  | [], _, w => Bel.refl _ _
  | v :: r, i, w => (Bel.store (p := ⟨B, i, none⟩) (by simp) v).trans (bel_puts r (i + 1) _)
theorem Blk.put_eq {B T : Nat} {cs : List Value} {w W : World} (h : Blk w B T cs) (r : List Value) (e : Go.Bs.puts w B 0 r = W) (hl : r.length = cs.length) : Blk W B T r := e ▸ h.put_all hl
theorem bel_put_eq {B : Nat} {w W : World} (r : List Value) (e : puts w B 0 r = W) : Bel [B] w W := e ▸ bel_puts r 0 w
end Go.Bs
