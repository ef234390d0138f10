/- The search's map and box; how many entries it makes. -/
import Derived.Test.YtbpmfaibcibleaaSeaA
namespace Go.Wg
open Go.RowKit Go.Bs Go.Pl
/-- where a search lies -/
structure SeP where
  v : JbV
  ts : List Th
  l : List Int
  L : Option Addr
  cL : Nat
  ld : Bool
  S : Nat
  I : Nat
  M : Nat
  cI : Nat
def seC (p : SeP) : List Value := [.slice p.v.x.A p.v.x.l.lanes.length p.v.x.c, .int .i64 p.v.x.l.height, .int .i64 p.v.x.l.carries, .int .i64 p.v.x.l.empty, .int .i64 p.v.x.l.rear, .int .i64 p.v.x.l.axle, .int .i64 p.v.x.l.deck, .slice p.v.T p.ts.length p.v.cT,
  .slice p.L p.l.length p.cL, .bool p.ld, .slice (some ⟨p.I, 0, none⟩) p.l.length p.cI, .map (some p.M)]
theorem cells_bel_or {α : Type} {w w' : World} {M : List Nat} {A : Option Addr} {sz : Nat} {enc : α → List Value} {l : List α} (h : Cells w A sz enc l) (hb : Dr.Bel M w w') (hA : ∀ k, A.map (·.block) = some k → k ∉ M ∨ l = []) : Cells w' A sz enc l := by
  by_cases hl : l = []
  · subst hl; exact Cells.nil
  · exact Dr.cells_bel h hb fun k hk => (hA k hk).resolve_right hl
theorem cells_kp_or {α : Type} {w w' : World} {M : List Nat} {A : Option Addr} {sz : Nat} {enc : α → List Value} {l : List α} (h : Cells w A sz enc l) (hb : KpC M w w') (hA : ∀ k, A.map (·.block) = some k → k ∉ M ∨ l = []) : Cells w' A sz enc l := by
  by_cases hl : l = []
  · subst hl; exact Cells.nil
  · exact hb.cells h fun k hk => (hA k hk).resolve_right hl
/-- where a row lies that isn't empty -/
theorem cells_lt {α : Type} {w : World} {A : Option Addr} {sz : Nat} {enc : α → List Value} {l : List α} (h : Cells w A sz enc l) (he : ∀ x, enc x ≠ []) : ∀ k, A.map (·.block) = some k → k < w.heap.size ∨ l = [] := by
  intro k hk
  cases l with
  | nil => exact .inr rfl
  | cons x l =>
    obtain ⟨b, off, e, hc⟩ := h 0 x rfl
    subst e
    simp only [Option.map_some, Option.some.injEq] at hk
    subst hk
    cases hx : enc x with
    | nil => exact absurd hx (he x)
    | cons u r => exact .inl (cell_lt (hc 0 u (by rw [hx]; rfl)))
/-- what lies unturned through the whole search -/
structure SeM (W : World) (p : SeP) : Prop where
  sb : Blk W p.S 142 (seC p)
  things : Cells W p.v.T 4 Th.enc p.ts
  list : Cells W p.L 1 encI p.l
  ne : p.S ≠ p.I ∧ p.S ≠ p.M ∧ p.I ≠ p.M
  tne : ∀ k, p.v.T.map (·.block) = some k → k ∉ [p.I, p.M] ∨ p.ts = []
  lne : ∀ k, p.L.map (·.block) = some k → k ∉ [p.I, p.M] ∨ p.l = []
structure SeS (p : SeP) : Prop where
  ok : ∀ t ∈ p.ts, t.Ok
  inR : InR p.ts.length p.l
  many : p.v.x.l.lanes.length ≤ 6
  st : p.ts.length ≤ 1000
  sl : p.l.length ≤ 1000
theorem SeM.bel {W W' : World} {p : SeP} (h : SeM W p) (hb : Dr.Bel [p.I, p.M] W W') : SeM W' p :=
  ⟨hb.blk h.sb (by have := h.ne; simp; omega), cells_bel_or h.things hb h.tne, cells_bel_or h.list hb h.lne, h.ne, h.tne, h.lne⟩
theorem SeM.kp {W W' : World} {p : SeP} (h : SeM W p) (hb : KpC [p.I, p.M] W W') : SeM W' p :=
  ⟨hb.blk h.sb (by have := h.ne; simp; omega), cells_kp_or h.things hb h.tne, cells_kp_or h.list hb h.lne, h.ne, h.tne, h.lne⟩
theorem SeM.ext {W W' : World} {p : SeP} (h : SeM W p) (hb : Below W.heap.size W W') : SeM W' p := h.bel (.of hb)
def SeP.th (p : SeP) (k : Nat) : Th := thAt p.ts (p.l.getD k 0)
def SeP.nl (p : SeP) : Nat := p.v.x.l.lanes.length
/-- the rest of the search -/
def sx (p : SeP) (x : Sta) : Option (List Nat) := srch p.nl p.ld ((p.l.drop x.next).map (thAt p.ts)) x.left x.needs
def wys (p : SeP) (x : Sta) : List Nat := waysL p.nl p.ld (p.th x.next) x.left x.needs
def nxt (p : SeP) (x : Sta) (i : Nat) : Sta := ⟨x.next + 1, stepL (p.th x.next) x.left i, stepN p.ld (p.th x.next) x.needs i⟩
theorem sx_end {p : SeP} {x : Sta} (h : x.next = p.l.length) : sx p x = some [] := by
  unfold sx; rw [List.drop_of_length_le (by omega)]; rfl
theorem sx_step {p : SeP} {x : Sta} (h : x.next < p.l.length) : sx p x = (wys p x).findSome? fun i => (sx p (nxt p x i)).map (i :: ·) := by
  unfold sx
  rw [List.drop_eq_getElem_cons h, List.map_cons, srch]
  have e : thAt p.ts p.l[x.next] = p.th x.next := by unfold SeP.th; simp [List.getD, h]
  rw [e]; rfl
theorem SeS.th {p : SeP} (h : SeS p) {k : Nat} (hk : k < p.l.length) : (p.th k).Ok := by
  have hx := h.inR (p.l.getD k 0) (by simp [List.getD, hk])
  exact h.ok _ (thAt_mem hx.1 hx.2)
theorem nxt_ok {p : SeP} {x : Sta} (hs : SeS p) (hx : x.Ok p.l.length) (h : x.next < p.l.length) {i : Nat} (hi : i ∈ wys p x) : (nxt p x i).Ok p.l.length := by
  have ht := hs.th h
  obtain ⟨h1, h2⟩ := waysL_mem.1 hi
  unfold canB at h2
  simp only [Bool.and_eq_true, decide_eq_true_eq] at h2
  have h6 : i < 6 := by have := hs.many; unfold SeP.nl at h1; omega
  refine ⟨h, by simp [nxt, stepL, hx.l6], by simp only [nxt, stepN]; split <;> simp [hx.n6], fun k => ?_, fun k => ?_⟩
  · have hk := hx.left k
    have hlo := ht.long
    simp only [nxt, stepL]
    by_cases e : i = k
    · subst e
      rw [List.getD_eq_getElem?_getD, List.getElem?_set_self (by rw [hx.l6]; exact h6)]
      simp only [Option.getD_some]
      omega
    · rw [List.getD_eq_getElem?_getD, List.getElem?_set_ne e, ← List.getD_eq_getElem?_getD]; exact hk
  · have hk := hx.needs k
    have hne := ht.need
    simp only [nxt, stepN]
    by_cases hl : p.ld = true
    · rw [if_pos hl]
      by_cases e : i = k
      · subst e
        rw [List.getD_eq_getElem?_getD, List.getElem?_set_self (by rw [hx.n6]; exact h6)]
        simpa using hne
      · rw [List.getD_eq_getElem?_getD, List.getElem?_set_ne e, ← List.getD_eq_getElem?_getD]; exact hk
    · rw [if_neg hl]; exact hk
theorem wys_len (p : SeP) (x : Sta) : (wys p x).length ≤ p.nl := by
  unfold wys waysL
  have := List.length_filter_le (canB p.ld (p.th x.next) x.left x.needs) (List.range p.nl)
  simpa using this
/-- how many entries a search may make -/
def updN : Nat → Nat
  | 0 => 1
  | k + 1 => 1 + 6 * updN k
theorem updN_le {k m : Nat} (h : k ≤ m) : updN k ≤ updN m := by
  induction m with
  | zero => obtain rfl : k = 0 := by omega
            exact Nat.le_refl _
  | succ m ih =>
    by_cases e : k = m + 1
    · rw [e]; exact Nat.le_refl _
    · have := ih (by omega)
      have h2 : updN (m + 1) = 1 + 6 * updN m := rfl
      omega
theorem updN_14 {k : Nat} (h : k ≤ 14) : updN k ≤ 1000000000000 := Nat.le_trans (updN_le h) (by decide)
end Go.Wg
namespace Go.Proofs.Ytbpmfaibcibleaa
open Go.RowKit Go.Bs Go.Wg Go.Pl Go.Sort
theorem lits146 (d : Nat) (a0 a1 a2 a3 a4 a5 a6 a7 a8 a9 a10 a11 a12 : Int) (h0 : (Lit.int .i64 a0).wf = true) (h1 : (Lit.int .i64 a1).wf = true) (h2 : (Lit.int .i64 a2).wf = true) (h3 : (Lit.int .i64 a3).wf = true) (h4 : (Lit.int .i64 a4).wf = true) (h5 : (Lit.int .i64 a5).wf = true) (h6 : (Lit.int .i64 a6).wf = true) (h7 : (Lit.int .i64 a7).wf = true) (h8 : (Lit.int .i64 a8).wf = true) (h9 : (Lit.int .i64 a9).wf = true) (h10 : (Lit.int .i64 a10).wf = true) (h11 : (Lit.int .i64 a11).wf = true) (h12 : (Lit.int .i64 a12).wf = true) :
    Try.prog.keyLits (d + 1 + 1 + 1) 146 [.int .i64 a0, .int .i64 a1, .int .i64 a2, .int .i64 a3, .int .i64 a4, .int .i64 a5, .int .i64 a6, .int .i64 a7, .int .i64 a8, .int .i64 a9, .int .i64 a10, .int .i64 a11, .int .i64 a12] = some [.int .i64 a0, .int .i64 a1, .int .i64 a2, .int .i64 a3, .int .i64 a4, .int .i64 a5, .int .i64 a6, .int .i64 a7, .int .i64 a8, .int .i64 a9, .int .i64 a10, .int .i64 a11, .int .i64 a12] := by
  have e1 := lits144 d a1 a2 a3 a4 a5 a6 h1 h2 h3 h4 h5 h6
  have e2 := lits144 d a7 a8 a9 a10 a11 a12 h7 h8 h9 h10 h11 h12
  have e0 := lits3 (d + 1) a0 h0
  unfold Program.keyLits
  rw [Try.underlying146]
  simp [co146, co144, co3, e0, e1, e2]
set_option maxRecDepth 100000 in
theorem key_some (x : Sta) (hn : x.next ≤ 1000000) (hl : ∀ i, 0 ≤ x.left.getD i 0 ∧ x.left.getD i 0 ≤ 2000) (hd : ∀ i, 0 ≤ x.needs.getD i 0 ∧ x.needs.getD i 0 ≤ 1000) : ∃ kl, keyOf Try.prog 146 (staV x) = some kl := by
  have wl := fun i => show (Lit.int .i64 (x.left.getD i 0)).wf = true from WalkArith.wf_i64 (by have := hl i; omega)
  have wd := fun i => show (Lit.int .i64 (x.needs.getD i 0)).wf = true from WalkArith.wf_i64 (by have := hd i; omega)
  have wn : (Lit.int .i64 (x.next : Int)).wf = true := WalkArith.wf_i64 (by omega)
  have hf : (staV x).formed Try.prog 146 = true := by simp [staV, Value.formed, Try.underlying146, co146]
  have hk := lits146 198 (x.next : Int) (gz x.left 0) (gz x.left 1) (gz x.left 2) (gz x.left 3) (gz x.left 4) (gz x.left 5) (gz x.needs 0) (gz x.needs 1) (gz x.needs 2) (gz x.needs 3) (gz x.needs 4) (gz x.needs 5) wn (wl 0) (wl 1) (wl 2) (wl 3) (wl 4) (wl 5) (wd 0) (wd 1) (wd 2) (wd 3) (wd 4) (wd 5)
  refine ⟨.string (keyBytes [.int .i64 (x.next : Int), .int .i64 (gz x.left 0), .int .i64 (gz x.left 1), .int .i64 (gz x.left 2), .int .i64 (gz x.left 3), .int .i64 (gz x.left 4), .int .i64 (gz x.left 5), .int .i64 (gz x.needs 0), .int .i64 (gz x.needs 1), .int .i64 (gz x.needs 2), .int .i64 (gz x.needs 3), .int .i64 (gz x.needs 4), .int .i64 (gz x.needs 5)]), ?_⟩
  rw [keyOf, Try.underlying146]
  simp only [kt146, hf, Bool.true_and, if_true]
  rw [tsz]
  show Option.map _ (Try.prog.keyLits (198 + 1 + 1 + 1) 146 [.int .i64 (x.next : Int), .int .i64 (gz x.left 0), .int .i64 (gz x.left 1), .int .i64 (gz x.left 2), .int .i64 (gz x.left 3), .int .i64 (gz x.left 4), .int .i64 (gz x.left 5), .int .i64 (gz x.needs 0), .int .i64 (gz x.needs 1), .int .i64 (gz x.needs 2), .int .i64 (gz x.needs 3), .int .i64 (gz x.needs 4), .int .i64 (gz x.needs 5)]) = _
  rw [hk]
  rfl
/-- what the map in the search's block holds: of states from which there is no way, true (at most n entries) -/
def MapS (p : SeP) (W : World) (n : Nat) : Prop :=
  ∃ D : DataW Unit, W.ownsMap Try.prog 146 (plainElem Try.prog 4) p.M n D ∧ ∀ (x : Sta) (kl : Lit), x.left.length = 6 ∧ x.needs.length = 6 → keyOf Try.prog 146 (staV x) = some kl → D.atKey kl (.lit (.bool false)) = .lit (.bool true) → sx p x = none
section
variable {p : SeP} {W W' : World} {n : Nat}
theorem MapS.made (p : SeP) (w : World) (h : p.M = w.heap.size) : MapS p (w.alloc (.map #[] 0)) 0 :=
  ⟨.map [], by rw [h]; exact World.ownsMap_made _ _ _ _, fun x kl _ _ h => by simp [DataW.atKey] at h⟩
theorem MapS.mono (h : MapS p W n) {m : Nat} (hm : n ≤ m) : MapS p W m := by
  obtain ⟨D, h1, h2⟩ := h
  exact ⟨D, h1.mono hm, h2⟩
theorem MapS.kept {row : Option Nat} (h : MapS p W n) (hg : W.grownBy W' row) (hne : some p.M ≠ row) : MapS p W' n := by
  obtain ⟨D, h1, h2⟩ := h
  exact ⟨D, h1.kept hg hne, h2⟩
theorem MapS.ext (h : MapS p W n) (hb : Below W.heap.size W W') : MapS p W' n := h.kept (grown_of_ext hb none) (by simp)
theorem MapS.lt (h : MapS p W n) : p.M < W.heap.size := by obtain ⟨D, h1, -⟩ := h; exact h1.lt
theorem MapS.set (h : MapS p W n) {q : Addr} (hp : p.M ≠ q.block) (u : Value) : MapS p (W.setCell q u) n :=
  h.kept (grownBy_setCell W q u) (fun e => hp (by simpa using e))
theorem MapS.alloc (h : MapS p W n) (o : Obj) : MapS p (W.alloc o) n := h.ext (ext_alloc W o)
end
theorem good_put {p : SeP} {D : DataW Unit} {x0 : Sta} {kl0 : Lit} (h6 : x0.left.length = 6 ∧ x0.needs.length = 6) (hk : keyOf Try.prog 146 (staV x0) = some kl0) (h0 : sx p x0 = none)
    (h : ∀ (x : Sta) (kl : Lit), x.left.length = 6 ∧ x.needs.length = 6 → keyOf Try.prog 146 (staV x) = some kl → D.atKey kl (.lit (.bool false)) = .lit (.bool true) → sx p x = none) :
    ∀ (x : Sta) (kl : Lit), x.left.length = 6 ∧ x.needs.length = 6 → keyOf Try.prog 146 (staV x) = some kl → (D.put kl0 (.lit (.bool true))).atKey kl (.lit (.bool false)) = .lit (.bool true) → sx p x = none := by
  intro x kl hx6 hx hh
  by_cases e : kl = kl0
  · subst e
    have hxx := staV_inj hx6 h6 (law146.inj hx hk)
    subst hxx
    exact h0
  · rw [Maps.atKey_put_other e] at hh
    exact h x kl hx6 hx hh
end Go.Proofs.Ytbpmfaibcibleaa
