/- Walk: the copy of a show, and where its rows lie. -/
import Derived.Test.YtcnidhcdkbfpcaaPgI
namespace Go.Bs
open Go.RowKit Go.Sort Go.Pl
section
variable {P : Program} {α : Type}
/-- append(append([]T{}), l...): a copy; a row that holds something lies in a block just made. -/
theorem wp_copy2 {o : Oper} {a : Act} {K : Act → World → Prop} {Q : Exit → Act → World → Prop} {w : World} (enc : α → List Value) (t e : TypeId) (sz bytes : Nat) (hT : ElemT P t e sz bytes) (hsz : 0 < sz) (hby : bytes ≤ 1000)
    (hen : ∀ x, (enc x).length = sz) (s x : Operand) (ho : o.op = .call { callee := .builtin .append, args := #[s, x], argTypes := #[t, t] }) (base g : Nat) (hs : a.eval s = .slice (some ⟨g, 0, none⟩) 0 0) (hg : Blk w g e []) (hbg : base ≤ g)
    (X : Option Addr) (m c : Nat) (l : List α) (hx : a.eval x = .slice X m c) (hl : l.length = m) (hc : Cells w X sz enc l) (hm : m ≤ 1000000) (hbase : base ≤ w.heap.size)
    (h : ∀ g' cap w', OwnL w' base e sz enc (.slice (some ⟨g', 0, none⟩) m cap) l → Below w.heap.size w w' → (0 < m → g' = w.heap.size) → K (a.put o.dst (.slice (some ⟨g', 0, none⟩) m cap)) w') : o.wp P a w K Q := by
  obtain ⟨i, z, ht, hi, hz, hs1, hb1, hz1⟩ := hT
  cases m with
  | zero =>
    have hl2 : l = [] := List.length_eq_zero_iff.1 hl
    subst hl2
    have hrun := run_app_zero (P := P) (w := w) ht hi o.type (some ⟨g, 0, none⟩) X 0 0 c (Nat.le_refl _)
    unfold Oper.wp
    simp [execOp, ho, resolve, invoke, builtin, hs, hx, hrun, Result.andThen]
    exact h g 0 w ⟨by simp, .inr ⟨g, 0, #[], rfl, hbg, hg, Nat.le_refl _, by unfold maxLen; omega, by simp, by simp⟩⟩ (Below.refl _ _) (fun h => by omega)
  | succ m =>
    obtain ⟨b, off, rfl, -⟩ := hc.at (k := 0) (by omega)
    have hfl : (l.flatMap enc).length = (m + 1) * i.size := by rw [flat_len hen, hl, hs1]
    have hmul : (m + 1) * bytes ≤ 1000001 * 1000 := Nat.mul_le_mul (by omega) hby
    have hr := run_append_grow (P := P) (w := w) t o.type e i z ht hi hz ⟨g, 0, none⟩ 0 0 [] (by simp) (fun j u hj => by simp at hj) ⟨b, off, none⟩ (m + 1) c (l.flatMap enc) hfl (cells_src hen hsz hc) (by omega) (by omega) (growslice_fits (by omega) (by rw [hb1, Nat.zero_add]; omega))
    simp only [Nat.zero_add] at hr
    have hge := grownCap_ge w (m + 1) 0 e
    have hcm : grownCap w (m + 1) 0 e ≤ maxLen := grownCap_le_maxLen w (m + 1) 0 e (by unfold maxLen; omega)
    unfold Oper.wp
    simp [execOp, ho, resolve, invoke, builtin, hs, hx, hr, Result.andThen]
    refine h w.heap.size _ _ ⟨by rw [flat_len hen], .inr ⟨w.heap.size, _, _, by rw [hl], hbase, heap_alloc_new w.drew _, by rw [hl]; exact hge, hcm, ?_, ?_⟩⟩ ⟨rfl, rfl, rfl, by simp, fun k hk => by first | exact _root_.Go.heap_alloc_old w.drew _ k hk | exact _root_.Go.heap_alloc_old w.drew _ hk⟩ (fun _ => rfl)
    · simp only [Array.size_append, List.size_toArray, size_zeroCells, hz1, hfl, hs1]
      rw [← Nat.add_mul]
      congr 1
      omega
    · rw [show l.length * sz = (l.flatMap enc).length by rw [flat_len hen]]
      simp only [Array.toList_append]
      exact List.take_left
end
end Go.Bs
namespace Go.Proofs.Ytcnidhcdkbfpcaa
open Go.RowKit Go.Bs Go.Pg Go.Pl Go.Sort
def EmpB (w : World) (bs : Nat) (e : TypeId) (v : Value) : Prop := ∃ g, v = .slice (some ⟨g, 0, none⟩) 0 0 ∧ bs ≤ g ∧ Blk w g e []
def RowB {α : Type} (w : World) (bs : Nat) (e : TypeId) (sz : Nat) (enc : α → List Value) (v : Value) (l : List α) : Prop := ∃ A c, v = .slice A l.length c ∧ OwnL w bs e sz enc (.slice A l.length c) l
theorem EmpB.ext {w w' : World} {bs : Nat} {e : TypeId} {v : Value} (h : EmpB w bs e v) (hb : Below w.heap.size w w') : EmpB w' bs e v := by
  obtain ⟨g, h1, h3, h2⟩ := h
  exact ⟨g, h1, h3, h2.ext hb⟩
theorem RowB.ext {α : Type} {w w' : World} {bs : Nat} {e : TypeId} {sz : Nat} {enc : α → List Value} {v : Value} {l : List α} (h : RowB w bs e sz enc v l) (hb : Below w.heap.size w w') : RowB w' bs e sz enc v l := by
  obtain ⟨A, c, h1, h2⟩ := h
  exact ⟨A, c, h1, h2.ext hb⟩
theorem RowB.own {α : Type} {w : World} {base : Nat} {e : TypeId} {sz : Nat} {enc : α → List Value} {v : Value} {l : List α} (hen : ∀ x, (enc x).length = sz) (h : OwnL w base e sz enc v l) : RowB w base e sz enc v l := by
  obtain ⟨A, c, rfl, -, -, h2⟩ := h.cells hen
  exact ⟨A, c, rfl, h⟩
theorem _root_.Go.Bs.OwnL.lift {α : Type} {w : World} {b1 b2 : Nat} {e : TypeId} {sz : Nat} {enc : α → List Value} {v : Value} {l : List α} (h : OwnL w b1 e sz enc v l) (hl : ∀ k, v.ownBlock = some k → b2 ≤ k) : OwnL w b2 e sz enc v l := by
  refine ⟨h.1, ?_⟩
  rcases h.2 with h1 | ⟨g, cap, cur, h1, h2, h3⟩
  · exact .inl h1
  · exact .inr ⟨g, cap, cur, h1, hl g (by rw [h1]; rfl), h3⟩
theorem RowB.new {α : Type} {w : World} {bs : Nat} {e : TypeId} {sz : Nat} {enc : α → List Value} {v : Value} {l : List α} (h : RowB w bs e sz enc v l) {g n c : Nat} (hg : g = w.heap.size) : (Value.slice (some ⟨g, 0, none⟩) n c).ownBlock ≠ v.ownBlock := by
  obtain ⟨A, d, rfl, ho⟩ := h
  intro e
  have := (ho.lt (k := g) (by rw [← e]; rfl)).2
  omega
/-- what the copying of the rows keeps, done as far as D says -/
structure ShK (w0 : World) (s : Sh) (D : Nat → Bool) (w : World) (x3 x6 x9 x10 x13 x14 x17 x22 x25 x26 : Value) : Prop where
  bl : Below w0.heap.size w0 w
  f0 : D 0 = true → EmpB w w0.heap.size 3 x6
  f4 : D 4 = true → EmpB w w0.heap.size 3 x10
  f8 : D 8 = true → EmpB w w0.heap.size 3 x14
  f16 : D 16 = true → EmpB w w0.heap.size 84 x22
  f3 : D 3 = true → RowB w w0.heap.size 3 1 encI x9 s.rest
  f7 : D 7 = true → RowB w w0.heap.size 3 1 encI x13 s.ins
  f11 : D 11 = true → RowB w w0.heap.size 3 1 encI x17 s.outs
  f19 : D 19 = true → RowB w w0.heap.size 84 2 encP x25 s.before
  f20 : D 20 = true → (D 3 = true ∧ D 7 = true ∧ D 11 = true ∧ D 19 = true) ∧ x26 = .agg #[.slice none 0 0, x9, x13, x17, .int .i64 s.cover, .int .i64 s.dull, x25]
  f21 : D 21 = true → BoxAt w w0.heap.size x3
  d1 : D 3 = true → D 7 = true → 0 < s.rest.length → 0 < s.ins.length → x9.ownBlock ≠ x13.ownBlock
  d2 : D 3 = true → D 11 = true → 0 < s.rest.length → 0 < s.outs.length → x9.ownBlock ≠ x17.ownBlock
def ShKA (w0 : World) (X Y : Nat) (s : Sh) (p : ShP) (D : Nat → Bool) (a : Act) (w : World) : Prop := ∃ x3 x6 x9 x10 x13 x14 x17 x22 x25 x26, a = ⟨#[.agg #[.slice p.A s.acts.length p.cA, .slice p.R s.rest.length p.cR, .slice p.I s.ins.length p.cI, .slice p.O s.outs.length p.cO, .int .i64 s.cover, .int .i64 s.dull, .slice p.B s.before.length p.cB], .pointer (some ⟨X, 0, none⟩), .pointer (some ⟨Y, 0, none⟩), x3, undef, undef, x6, .pointer (some ⟨X, 1, none⟩), .slice p.R s.rest.length p.cR, x9, x10, .pointer (some ⟨X, 2, none⟩), .slice p.I s.ins.length p.cI, x13, x14, .pointer (some ⟨X, 3, none⟩), .slice p.O s.outs.length p.cO, x17, .pointer (some ⟨X, 4, none⟩), .int .i64 s.cover, .pointer (some ⟨X, 5, none⟩), .int .i64 s.dull, x22, .pointer (some ⟨X, 6, none⟩), .slice p.B s.before.length p.cB, x25, x26, undef, undef, undef, undef, undef, undef, undef, undef, undef, undef, undef, undef, undef, undef, undef, undef, undef, undef, undef, undef, undef, undef, undef, undef, undef, undef, undef, undef, undef, undef, undef], []⟩ ∧ ShK w0 s D w x3 x6 x9 x10 x13 x14 x17 x22 x25 x26

/-- a show of the call's own: where its rows lie -/
structure ShF (w W : World) (s : Sh) (p : ShP) : Prop where
  m : ShM W s p
  r : OwnL W w.heap.size 3 1 encI (.slice p.R s.rest.length p.cR) s.rest
  a : OwnL W 0 82 5 AcV.enc (.slice p.A s.acts.length p.cA) p.av
  c : ∀ x ∈ p.av, OwnL W 0 47 1 encU (.slice x.C x.a.casts.length x.c) x.a.casts
  i : OwnL W 0 3 1 encI (.slice p.I s.ins.length p.cI) s.ins
  o : OwnL W 0 3 1 encI (.slice p.O s.outs.length p.cO) s.outs
  b : OwnL W 0 84 2 encP (.slice p.B s.before.length p.cB) s.before
  ri : 0 < s.rest.length → 0 < s.ins.length → (Value.slice p.R s.rest.length p.cR).ownBlock ≠ (Value.slice p.I s.ins.length p.cI).ownBlock
  ro : 0 < s.rest.length → 0 < s.outs.length → (Value.slice p.R s.rest.length p.cR).ownBlock ≠ (Value.slice p.O s.outs.length p.cO).ownBlock
set_option maxRecDepth 100000 in
set_option maxHeartbeats 2000000 in
theorem ShowF_any (s : Sh) (p : ShP) (w : World) (h : ShM w s p) :
    Calls Try.prog 17 #[shV s p] w fun e w' => (∃ p', e = .returned (shV s p') ∧ ShF w w' s p') ∧ Below w.heap.size w w' := by
  obtain ⟨m1, m2, m3, m4, m5⟩ := h.small
  have hb0 := ext_alloc w (.cells (shC s p).toArray 26)
  have hS := Blk.new w 26 (shC s p)
  unfold shV at *
  unfold shC at *
  go_enter Try.func17, Try.ntmps17
  go_upto_region 1 with fail
  have hS1 := hS.ext (ext_alloc (w.alloc (.cells #[.slice p.A s.acts.length p.cA, .slice p.R s.rest.length p.cR, .slice p.I s.ins.length p.cI, .slice p.O s.outs.length p.cO, .int .i64 s.cover, .int .i64 s.dull, .slice p.B s.before.length p.cB] 26)) (.cells #[.slice none 0 0, .slice none 0 0, .slice none 0 0, .slice none 0 0, .int .i64 0, .int .i64 0, .slice none 0 0] 35))
  have hY := Blk.new (w.alloc (.cells #[.slice p.A s.acts.length p.cA, .slice p.R s.rest.length p.cR, .slice p.I s.ins.length p.cI, .slice p.O s.outs.length p.cO, .int .i64 s.cover, .int .i64 s.dull, .slice p.B s.before.length p.cB] 26)) 35 zerC
  have hb1 := hb0.trans ((ext_alloc (w.alloc (.cells #[.slice p.A s.acts.length p.cA, .slice p.R s.rest.length p.cR, .slice p.I s.ins.length p.cI, .slice p.O s.outs.length p.cO, .int .i64 s.cover, .int .i64 s.dull, .slice p.B s.before.length p.cB] 26)) (.cells #[.slice none 0 0, .slice none 0 0, .slice none 0 0, .slice none 0 0, .int .i64 0, .int .i64 0, .slice none 0 0] 35)).mono hb0.size)
  have hz : (w.alloc (.cells #[.slice p.A s.acts.length p.cA, .slice p.R s.rest.length p.cR, .slice p.I s.ins.length p.cI, .slice p.O s.outs.length p.cO, .int .i64 s.cover, .int .i64 s.dull, .slice p.B s.before.length p.cB] 26)).heap.size = w.heap.size + 1 := by simp
  rw [hz] at hY
  unfold zerC at hY
  change Blk (World.alloc _ (.cells #[.slice none 0 0, .slice none 0 0, .slice none 0 0, .slice none 0 0, .int .i64 0, .int .i64 0, .slice none 0 0] 35)) _ _ _ at hY
  generalize (w.alloc (.cells #[.slice p.A s.acts.length p.cA, .slice p.R s.rest.length p.cR, .slice p.I s.ins.length p.cI, .slice p.O s.outs.length p.cO, .int .i64 s.cover, .int .i64 s.dull, .slice p.B s.before.length p.cB] 26)).alloc (.cells #[.slice none 0 0, .slice none 0 0, .slice none 0 0, .slice none 0 0, .int .i64 0, .int .i64 0, .slice none 0 0] 35) = W0 at *
  clear hb0 hS hz
  have hb2 := hb1.drew
  have hS2 := hS1.ext (ext_drew W0)
  have hY2 := hY.ext (ext_drew W0)
  refine Dr.wp_region_inv 22 [] [1, 2, 5, 6, 9, 10, 12, 13, 14, 15, 17, 18] [0, 4, 8, 16, 3, 7, 11, 19, 20, 21] (ShKA W0.drew w.heap.size (w.heap.size + 1) s p) (by kernel_rfl) (by kernel_rfl) ?_ ?_ ?_
  · have q0 := Dr.cell0 (hS2.cell (i := 0) rfl)
    have q1 := Dr.cell0 (hS2.cell (i := 1) rfl)
    have q2 := Dr.cell0 (hS2.cell (i := 2) rfl)
    have q3 := Dr.cell0 (hS2.cell (i := 3) rfl)
    have q4 := Dr.cell0 (hS2.cell (i := 4) rfl)
    have q5 := Dr.cell0 (hS2.cell (i := 5) rfl)
    have q6 := Dr.cell0 (hS2.cell (i := 6) rfl)
    intro K hK
    change wpQuiet _ _ _ K [_, _, _, _, _, _, _, _, _, _, _, _] _
    iterate 12 (go_big_quiet_step (fail))
    refine wpQuiet_nil (hK _ ?_)
    exact ⟨_, _, _, _, _, _, _, _, _, _, rfl, ⟨Below.refl _ _, fun d => absurd d (by decide), fun d => absurd d (by decide), fun d => absurd d (by decide), fun d => absurd d (by decide), fun d => absurd d (by decide), fun d => absurd d (by decide), fun d => absurd d (by decide), fun d => absurd d (by decide), fun d => absurd d (by decide), fun d => absurd d (by decide), fun d => absurd d (by decide), fun d => absurd d (by decide)⟩⟩
  · generalize W0.drew = V0 at *
    clear hS1 hY hb1
    have Hh := Lib.hid h
    clear h
    rintro i hi o ho D a w1 hD hdeps ⟨x3, x6, x9, x10, x13, x14, x17, x22, x25, x26, rfl, hj⟩ K hK
    simp only [List.mem_cons, List.not_mem_nil, or_false] at hi
    rcases hi with rfl | rfl | rfl | rfl | rfl | rfl | rfl | rfl | rfl | rfl <;> cases ho
    · have hb := ext_alloc w1 (.cells #[] 3)
      have hn : Blk (w1.alloc (.cells #[] 3)) w1.heap.size 3 [] := Blk.new w1 3 []
      go_wp2_with fail
      exact hK _ _ (.of hb) ⟨x3, _, x9, x10, x13, x14, x17, x22, x25, x26, rfl, ⟨hj.bl.trans (hb.mono hj.bl.size), fun _ => ⟨w1.heap.size, rfl, hj.bl.size, hn⟩, fun d => (hj.f4 (upD d (by decide))).ext hb, fun d => (hj.f8 (upD d (by decide))).ext hb, fun d => (hj.f16 (upD d (by decide))).ext hb, fun d => (hj.f3 (upD d (by decide))).ext hb, fun d => (hj.f7 (upD d (by decide))).ext hb, fun d => (hj.f11 (upD d (by decide))).ext hb, fun d => (hj.f19 (upD d (by decide))).ext hb, fun d => (hj.f20 (upD d (by decide))).imp (fun ⟨a1, a2, a3, a4⟩ => ⟨upT a1, upT a2, upT a3, upT a4⟩) id, fun d => (hj.f21 (upD d (by decide))).ext hb, fun a b => hj.d1 (upD a (by decide)) (upD b (by decide)), fun a b => hj.d2 (upD a (by decide)) (upD b (by decide))⟩⟩
    · have hb := ext_alloc w1 (.cells #[] 3)
      have hn : Blk (w1.alloc (.cells #[] 3)) w1.heap.size 3 [] := Blk.new w1 3 []
      go_wp2_with fail
      exact hK _ _ (.of hb) ⟨x3, x6, x9, _, x13, x14, x17, x22, x25, x26, rfl, ⟨hj.bl.trans (hb.mono hj.bl.size), fun d => (hj.f0 (upD d (by decide))).ext hb, fun _ => ⟨w1.heap.size, rfl, hj.bl.size, hn⟩, fun d => (hj.f8 (upD d (by decide))).ext hb, fun d => (hj.f16 (upD d (by decide))).ext hb, fun d => (hj.f3 (upD d (by decide))).ext hb, fun d => (hj.f7 (upD d (by decide))).ext hb, fun d => (hj.f11 (upD d (by decide))).ext hb, fun d => (hj.f19 (upD d (by decide))).ext hb, fun d => (hj.f20 (upD d (by decide))).imp (fun ⟨a1, a2, a3, a4⟩ => ⟨upT a1, upT a2, upT a3, upT a4⟩) id, fun d => (hj.f21 (upD d (by decide))).ext hb, fun a b => hj.d1 (upD a (by decide)) (upD b (by decide)), fun a b => hj.d2 (upD a (by decide)) (upD b (by decide))⟩⟩
    · have hb := ext_alloc w1 (.cells #[] 3)
      have hn : Blk (w1.alloc (.cells #[] 3)) w1.heap.size 3 [] := Blk.new w1 3 []
      go_wp2_with fail
      exact hK _ _ (.of hb) ⟨x3, x6, x9, x10, x13, _, x17, x22, x25, x26, rfl, ⟨hj.bl.trans (hb.mono hj.bl.size), fun d => (hj.f0 (upD d (by decide))).ext hb, fun d => (hj.f4 (upD d (by decide))).ext hb, fun _ => ⟨w1.heap.size, rfl, hj.bl.size, hn⟩, fun d => (hj.f16 (upD d (by decide))).ext hb, fun d => (hj.f3 (upD d (by decide))).ext hb, fun d => (hj.f7 (upD d (by decide))).ext hb, fun d => (hj.f11 (upD d (by decide))).ext hb, fun d => (hj.f19 (upD d (by decide))).ext hb, fun d => (hj.f20 (upD d (by decide))).imp (fun ⟨a1, a2, a3, a4⟩ => ⟨upT a1, upT a2, upT a3, upT a4⟩) id, fun d => (hj.f21 (upD d (by decide))).ext hb, fun a b => hj.d1 (upD a (by decide)) (upD b (by decide)), fun a b => hj.d2 (upD a (by decide)) (upD b (by decide))⟩⟩
    · have hb := ext_alloc w1 (.cells #[] 84)
      have hn : Blk (w1.alloc (.cells #[] 84)) w1.heap.size 84 [] := Blk.new w1 84 []
      go_wp2_with fail
      exact hK _ _ (.of hb) ⟨x3, x6, x9, x10, x13, x14, x17, _, x25, x26, rfl, ⟨hj.bl.trans (hb.mono hj.bl.size), fun d => (hj.f0 (upD d (by decide))).ext hb, fun d => (hj.f4 (upD d (by decide))).ext hb, fun d => (hj.f8 (upD d (by decide))).ext hb, fun _ => ⟨w1.heap.size, rfl, hj.bl.size, hn⟩, fun d => (hj.f3 (upD d (by decide))).ext hb, fun d => (hj.f7 (upD d (by decide))).ext hb, fun d => (hj.f11 (upD d (by decide))).ext hb, fun d => (hj.f19 (upD d (by decide))).ext hb, fun d => (hj.f20 (upD d (by decide))).imp (fun ⟨a1, a2, a3, a4⟩ => ⟨upT a1, upT a2, upT a3, upT a4⟩) id, fun d => (hj.f21 (upD d (by decide))).ext hb, fun a b => hj.d1 (upD a (by decide)) (upD b (by decide)), fun a b => hj.d2 (upD a (by decide)) (upD b (by decide))⟩⟩
    · obtain ⟨g, rfl, hgb, hg⟩ := hj.f0 (hdeps 0 (by decide))
      refine wp_copy2 encI 23 3 1 8 et23 (by decide) (by decide) encI_len _ _ rfl V0.heap.size g rfl hg hgb p.R s.rest.length p.cR s.rest rfl rfl ((Hh.out.ext (hb2.trans (hj.bl.mono hb2.size))).rest) (by omega) hj.bl.size (fun g' cap w' hown hb hat => ?_)
      exact hK _ _ (.of hb) ⟨x3, _, _, x10, x13, x14, x17, x22, x25, x26, rfl, ⟨hj.bl.trans (hb.mono hj.bl.size), fun d => (hj.f0 (upD d (by decide))).ext hb, fun d => (hj.f4 (upD d (by decide))).ext hb, fun d => (hj.f8 (upD d (by decide))).ext hb, fun d => (hj.f16 (upD d (by decide))).ext hb, fun _ => RowB.own encI_len hown, fun d => (hj.f7 (upD d (by decide))).ext hb, fun d => (hj.f11 (upD d (by decide))).ext hb, fun d => (hj.f19 (upD d (by decide))).ext hb, fun d => absurd (hj.f20 (upD d (by decide))).1.1 (by rw [hD]; decide), fun d => (hj.f21 (upD d (by decide))).ext hb, fun _ b hr _ => RowB.new (hj.f7 (upD b (by decide))) (hat hr), fun _ b hr _ => RowB.new (hj.f11 (upD b (by decide))) (hat hr)⟩⟩
    · obtain ⟨g, rfl, hgb, hg⟩ := hj.f4 (hdeps 4 (by decide))
      refine wp_copy2 encI 23 3 1 8 et23 (by decide) (by decide) encI_len _ _ rfl V0.heap.size g rfl hg hgb p.I s.ins.length p.cI s.ins rfl rfl ((Hh.out.ext (hb2.trans (hj.bl.mono hb2.size))).ins) (by omega) hj.bl.size (fun g' cap w' hown hb hat => ?_)
      exact hK _ _ (.of hb) ⟨x3, x6, x9, _, _, x14, x17, x22, x25, x26, rfl, ⟨hj.bl.trans (hb.mono hj.bl.size), fun d => (hj.f0 (upD d (by decide))).ext hb, fun d => (hj.f4 (upD d (by decide))).ext hb, fun d => (hj.f8 (upD d (by decide))).ext hb, fun d => (hj.f16 (upD d (by decide))).ext hb, fun d => (hj.f3 (upD d (by decide))).ext hb, fun _ => RowB.own encI_len hown, fun d => (hj.f11 (upD d (by decide))).ext hb, fun d => (hj.f19 (upD d (by decide))).ext hb, fun d => absurd (hj.f20 (upD d (by decide))).1.2.1 (by rw [hD]; decide), fun d => (hj.f21 (upD d (by decide))).ext hb, fun a _ _ hr => (RowB.new (hj.f3 (upD a (by decide))) (hat hr)).symm, fun a b => hj.d2 (upD a (by decide)) (upD b (by decide))⟩⟩
    · obtain ⟨g, rfl, hgb, hg⟩ := hj.f8 (hdeps 8 (by decide))
      refine wp_copy2 encI 23 3 1 8 et23 (by decide) (by decide) encI_len _ _ rfl V0.heap.size g rfl hg hgb p.O s.outs.length p.cO s.outs rfl rfl ((Hh.out.ext (hb2.trans (hj.bl.mono hb2.size))).outs) (by omega) hj.bl.size (fun g' cap w' hown hb hat => ?_)
      exact hK _ _ (.of hb) ⟨x3, x6, x9, x10, x13, _, _, x22, x25, x26, rfl, ⟨hj.bl.trans (hb.mono hj.bl.size), fun d => (hj.f0 (upD d (by decide))).ext hb, fun d => (hj.f4 (upD d (by decide))).ext hb, fun d => (hj.f8 (upD d (by decide))).ext hb, fun d => (hj.f16 (upD d (by decide))).ext hb, fun d => (hj.f3 (upD d (by decide))).ext hb, fun d => (hj.f7 (upD d (by decide))).ext hb, fun _ => RowB.own encI_len hown, fun d => (hj.f19 (upD d (by decide))).ext hb, fun d => absurd (hj.f20 (upD d (by decide))).1.2.2.1 (by rw [hD]; decide), fun d => (hj.f21 (upD d (by decide))).ext hb, fun a b => hj.d1 (upD a (by decide)) (upD b (by decide)), fun a _ _ hr => (RowB.new (hj.f3 (upD a (by decide))) (hat hr)).symm⟩⟩
    · obtain ⟨g, rfl, hgb, hg⟩ := hj.f16 (hdeps 16 (by decide))
      refine wp_copy2 encP 24 84 2 16 et24 (by decide) (by decide) encP_len _ _ rfl V0.heap.size g rfl hg hgb p.B s.before.length p.cB s.before rfl rfl ((Hh.out.ext (hb2.trans (hj.bl.mono hb2.size))).before) (by omega) hj.bl.size (fun g' cap w' hown hb hat => ?_)
      exact hK _ _ (.of hb) ⟨x3, x6, x9, x10, x13, x14, x17, _, _, x26, rfl, ⟨hj.bl.trans (hb.mono hj.bl.size), fun d => (hj.f0 (upD d (by decide))).ext hb, fun d => (hj.f4 (upD d (by decide))).ext hb, fun d => (hj.f8 (upD d (by decide))).ext hb, fun d => (hj.f16 (upD d (by decide))).ext hb, fun d => (hj.f3 (upD d (by decide))).ext hb, fun d => (hj.f7 (upD d (by decide))).ext hb, fun d => (hj.f11 (upD d (by decide))).ext hb, fun _ => RowB.own encP_len hown, fun d => absurd (hj.f20 (upD d (by decide))).1.2.2.2 (by rw [hD]; decide), fun d => (hj.f21 (upD d (by decide))).ext hb, fun a b => hj.d1 (upD a (by decide)) (upD b (by decide)), fun a b => hj.d2 (upD a (by decide)) (upD b (by decide))⟩⟩
    · obtain ⟨A9, c9, rfl, -⟩ := hj.f3 (hdeps 3 (by decide))
      obtain ⟨A13, c13, rfl, -⟩ := hj.f7 (hdeps 7 (by decide))
      obtain ⟨A17, c17, rfl, -⟩ := hj.f11 (hdeps 11 (by decide))
      obtain ⟨A25, c25, rfl, -⟩ := hj.f19 (hdeps 19 (by decide))
      go_wp2_with fail
      exact hK _ _ (Dr.Bel.refl _ _) ⟨x3, x6, _, x10, _, x14, _, x22, _, _, rfl, ⟨hj.bl, fun d => hj.f0 (upD d (by decide)), fun d => hj.f4 (upD d (by decide)), fun d => hj.f8 (upD d (by decide)), fun d => hj.f16 (upD d (by decide)), fun d => hj.f3 (upD d (by decide)), fun d => hj.f7 (upD d (by decide)), fun d => hj.f11 (upD d (by decide)), fun d => hj.f19 (upD d (by decide)), fun _ => ⟨⟨upT (hdeps 3 (by decide)), upT (hdeps 7 (by decide)), upT (hdeps 11 (by decide)), upT (hdeps 19 (by decide))⟩, rfl⟩, fun d => hj.f21 (upD d (by decide)), fun a b => hj.d1 (upD a (by decide)) (upD b (by decide)), fun a b => hj.d2 (upD a (by decide)) (upD b (by decide))⟩⟩
    · have hb := ext_alloc w1 (.cells #[.slice none 0 0, .slice none 0 0, .slice none 0 0, .slice none 0 0, .int .i64 0, .int .i64 0, .slice none 0 0] 35)
      have hn : Blk (w1.alloc (.cells #[.slice none 0 0, .slice none 0 0, .slice none 0 0, .slice none 0 0, .int .i64 0, .int .i64 0, .slice none 0 0] 35)) w1.heap.size 35 zerC := Blk.new w1 35 zerC
      go_wp2_with fail
      exact hK _ _ (.of hb) ⟨_, x6, x9, x10, x13, x14, x17, x22, x25, x26, rfl, ⟨hj.bl.trans (hb.mono hj.bl.size), fun d => (hj.f0 (upD d (by decide))).ext hb, fun d => (hj.f4 (upD d (by decide))).ext hb, fun d => (hj.f8 (upD d (by decide))).ext hb, fun d => (hj.f16 (upD d (by decide))).ext hb, fun d => (hj.f3 (upD d (by decide))).ext hb, fun d => (hj.f7 (upD d (by decide))).ext hb, fun d => (hj.f11 (upD d (by decide))).ext hb, fun d => (hj.f19 (upD d (by decide))).ext hb, fun d => (hj.f20 (upD d (by decide))).imp (fun ⟨a1, a2, a3, a4⟩ => ⟨upT a1, upT a2, upT a3, upT a4⟩) id, fun _ => ⟨w1.heap.size, rfl, hj.bl.size, hn⟩, fun a b => hj.d1 (upD a (by decide)) (upD b (by decide)), fun a b => hj.d2 (upD a (by decide)) (upD b (by decide))⟩⟩
  · generalize W0.drew = V0 at *
    rintro a w1 ⟨x3, x6, x9, x10, x13, x14, x17, x22, x25, x26, rfl, hj⟩
    obtain ⟨-, h26⟩ := hj.f20 (by decide)
    obtain ⟨A9, c9, rfl, hc9⟩ := hj.f3 (by decide)
    obtain ⟨A13, c13, rfl, hc13⟩ := hj.f7 (by decide)
    obtain ⟨A17, c17, rfl, hc17⟩ := hj.f11 (by decide)
    obtain ⟨A25, c25, rfl, hc25⟩ := hj.f19 (by decide)
    obtain ⟨g, rfl, hg0, hgb⟩ := hj.f21 (by decide)
    subst h26
    have hd1 := hj.d1 (by decide) (by decide)
    have hd2 := hj.d2 (by decide) (by decide)
    have Hd1 := Lib.hid hd1
    have Hd2 := Lib.hid hd2
    have Hlo9 := Lib.hid (fun k (hk : (Value.slice A9 s.rest.length c9).ownBlock = some k) => Nat.le_trans hb2.size (hc9.lt hk).1)
    clear hd1 hd2
    have hc9 := OwnL.up hc9 (Nat.zero_le _)
    have hc13 := OwnL.up hc13 (Nat.zero_le _)
    have hc17 := OwnL.up hc17 (Nat.zero_le _)
    have hc25 := OwnL.up hc25 (Nat.zero_le _)
    have hbl := hb2.trans (hj.bl.mono hb2.size)
    have hS3 := hS2.ext (hj.bl.mono (Nat.le_refl _))
    have hY3 := hY2.ext (hj.bl.mono (Nat.le_refl _))
    have hXg := hS2.lt
    have hYg := hY2.lt
    clear hj hS2 hY2 hb2
    change wpList _ _ _ [_] _ _
    unfold zerC at hgb
    have e0 : w1.cell? ⟨g, 0, none⟩ = some _ := hgb.cell (i := 0) rfl
    have e1 : w1.cell? ⟨g, 1, none⟩ = some _ := hgb.cell (i := 1) rfl
    have e2 : w1.cell? ⟨g, 2, none⟩ = some _ := hgb.cell (i := 2) rfl
    have e3 : w1.cell? ⟨g, 3, none⟩ = some _ := hgb.cell (i := 3) rfl
    have e4 : w1.cell? ⟨g, 4, none⟩ = some _ := hgb.cell (i := 4) rfl
    have e5 : w1.cell? ⟨g, 5, none⟩ = some _ := hgb.cell (i := 5) rfl
    have e6 : w1.cell? ⟨g, 6, none⟩ = some _ := hgb.cell (i := 6) rfl
    have f0 := hgb.free 0
    have f1 := hgb.free 1
    have f2 := hgb.free 2
    have f3 := hgb.free 3
    have f4 := hgb.free 4
    have f5 := hgb.free 5
    have f6 := hgb.free 6
    go_upto_region 2 with fail
    have i9 : OwnL w1 0 3 1 encI (.slice A9 s.rest.length c9) s.rest := hc9
    have hL := Lib.hid (show ShL w s p g A9 A13 A17 A25 c9 c13 c17 c25 w1.heap.size 0 [] (.slice none 0 0) (((((((w1.setCell ⟨g, 0, none⟩ (.slice none 0 0)).setCell ⟨g, 1, none⟩ (.slice A9 s.rest.length c9)).setCell ⟨g, 2, none⟩ (.slice A13 s.ins.length c13)).setCell ⟨g, 3, none⟩ (.slice A17 s.outs.length c17)).setCell ⟨g, 4, none⟩ (.int .i64 s.cover)).setCell ⟨g, 5, none⟩ (.int .i64 s.dull)).setCell ⟨g, 6, none⟩ (.slice A25 s.before.length c25)) from by
      have hwg : w.heap.size + 2 ≤ g := by omega
      have b0 := hgb.set 0 (.slice none 0 0)
      have b1 := b0.set 1 (.slice A9 s.rest.length c9)
      have b2 := b1.set 2 (.slice A13 s.ins.length c13)
      have b3 := b2.set 3 (.slice A17 s.outs.length c17)
      have b4 := b3.set 4 (.int .i64 s.cover)
      have b5 := b4.set 5 (.int .i64 s.dull)
      have b6 := b5.set 6 (.slice A25 s.before.length c25)
      have o7 : ∀ {α : Type} {e : TypeId} {sz : Nat} {enc : α → List Value} {v : Value} {l : List α}, OwnL w1 0 e sz enc v l → (35 : Nat) ≠ e → OwnL (((((((w1.setCell ⟨g, 0, none⟩ (.slice none 0 0)).setCell ⟨g, 1, none⟩ (.slice A9 s.rest.length c9)).setCell ⟨g, 2, none⟩ (.slice A13 s.ins.length c13)).setCell ⟨g, 3, none⟩ (.slice A17 s.outs.length c17)).setCell ⟨g, 4, none⟩ (.int .i64 s.cover)).setCell ⟨g, 5, none⟩ (.int .i64 s.dull)).setCell ⟨g, 6, none⟩ (.slice A25 s.before.length c25)) 0 e sz enc v l := fun h1 hne =>
        OwnL.othr (OwnL.othr (OwnL.othr (OwnL.othr (OwnL.othr (OwnL.othr (OwnL.othr h1 hgb hne 0 _) b0 hne 1 _) b1 hne 2 _) b2 hne 3 _) b3 hne 4 _) b4 hne 5 _) b5 hne 6 _
      refine ⟨((((((hbl.setCell (by simp; omega) _).setCell (by simp; omega) _).setCell (by simp; omega) _).setCell (by simp; omega) _).setCell (by simp; omega) _).setCell (by simp; omega) _).setCell (by simp; omega) _, b6, ?_, ?_, o7 hc9 (by decide), o7 hc13 (by decide), o7 hc17 (by decide), o7 hc25 (by decide), OwnL.nil, rfl, fun x hx => by simp at hx, hbl.size, by simp⟩
      · exact ((((((hS3.other (by simp; omega) _).other (by simp; omega) _).other (by simp; omega) _).other (by simp; omega) _).other (by simp; omega) _).other (by simp; omega) _).other (by simp; omega) _
      · exact ((((((hY3.other (by simp; omega) _).other (by simp; omega) _).other (by simp; omega) _).other (by simp; omega) _).other (by simp; omega) _).other (by simp; omega) _).other (by simp; omega) _)
    have hwg : w.heap.size + 2 ≤ g := by omega
    clear i9 e0 e1 e2 e3 e4 e5 e6 f0 f1 f2 f3 f4 f5 f6 hgb hS3 hY3 hbl hc9 hc13 hc17 hc25 hb1 hS1 hY hg0 hXg hYg
    generalize w1.heap.size = lo at *
    generalize (((((((w1.setCell _ _).setCell _ _).setCell _ _).setCell _ _).setCell _ _).setCell _ _).setCell _ _) = W2 at *
    have Hh := Lib.hid h
    clear h
    go_wp2
    go_loopw [4] (fun t wr => ∃ (k : Nat) (av : List AcV) (v : Value), t = .int .i64 k ∧ k ≤ s.acts.length ∧ ShL w s p g A9 A13 A17 A25 c9 c13 c17 c25 lo k av v wr) (fun t _ => s.acts.length - (intOf t).toNat)
    case atStart => exact ⟨0, [], _, rfl, by omega, hL.out⟩
    case round =>
      obtain ⟨k, av, v, rfl, hk, hl⟩ := hrel
      by_cases hlt : k < s.acts.length
      · have hlt' : (k : Int) < (s.acts.length : Int) := by omega
        have hk0 : (0 : Int) ≤ k := by omega
        obtain ⟨x, hxm, hxa, b, off, hA, hbl, c0, c1, c2, c3, c4, hcc⟩ := (Hh.out.ext hl.bl).av' hlt
        have hx3 := (Hh.out.bit hlt).2.1
        rw [← hxa] at hx3
        have s0 : wr.cell? ⟨w.heap.size, 0, none⟩ = some (.slice (some ⟨b, off, none⟩) s.acts.length p.cA) := by rw [← hA]; exact hl.sb.cell (i := 0) rfl
        have Hxa := Lib.hid hxa
        have Hl := Lib.hid hl
        have Hcc := Lib.hid hcc
        clear hl hcc hxa hxm hA
        go_upto_region 6 with fail
        have hbz := ext_alloc wr (.cells #[.int .i64 x.a.min, .int .i64 x.a.ten, .int .u16 x.a.rigs, .slice x.C x.a.casts.length x.c, .bool x.a.spare] 50)
        have hZ : Blk (wr.alloc (.cells #[.int .i64 x.a.min, .int .i64 x.a.ten, .int .u16 x.a.rigs, .slice x.C x.a.casts.length x.c, .bool x.a.spare] 50)) wr.heap.size 50 [.int .i64 x.a.min, .int .i64 x.a.ten, .int .u16 x.a.rigs, .slice x.C x.a.casts.length x.c, .bool x.a.spare] := Blk.new wr 50 _
        have hl1 := Hl.out.ext hbz
        have hcc1 := Hcc.out.ext hbz
        clear s0 c0 c1 c2 c3 c4 hbz Hl Hcc
        generalize wr.alloc (.cells #[.int .i64 x.a.min, .int .i64 x.a.ten, .int .u16 x.a.rigs, .slice x.C x.a.casts.length x.c, .bool x.a.spare] 50) = Wz at *
        refine Dr.wp_region_plan 16 [] (.q [0, 1, 2, 3, 4, 5, 6, 7, 9, 10, 12, 13] (.e1 8 (.e1 11 (.q [14] (.e1 15 .done))))) (by kernel_rfl) (by kernel_rfl) ?_
        have hl2 := hl1.ext (ext_drew Wz)
        have hcc2 := hcc1.ext (ext_drew Wz)
        have hZ2 := hZ.ext (ext_drew Wz)
        clear hl1 hcc1 hZ
        generalize World.drew _ = V1 at *
        have q0 := Dr.cell0 (hZ2.cell (i := 0) rfl)
        have q1 := Dr.cell0 (hZ2.cell (i := 1) rfl)
        have q2 := Dr.cell0 (hZ2.cell (i := 2) rfl)
        have q3 := Dr.cell0 (hZ2.cell (i := 3) rfl)
        have q4 := Dr.cell0 (hZ2.cell (i := 4) rfl)
        have q5 := Dr.cell0 (hl2.bx.cell (i := 0) rfl)
        have Hl2 := Lib.hid hl2
        clear hl2
        refine Dr.plan_q (l := [_, _, _, _, _, _, _, _, _, _, _, _]) rfl (fun K hK => ?_)
        iterate 12 (go_big_quiet_step (fail))
        refine wpQuiet_nil (hK _ ?_); clear hK K
        clear q0 q1 q2 q3 q4 q5 hZ2
        have hbe := ext_alloc V1 (.cells #[] 47)
        have hE : Blk (V1.alloc (.cells #[] 47)) V1.heap.size 47 [] := Blk.new V1 47 []
        refine Dr.plan_e rfl (by rfl) (fun K hK => ?_)
        go_wp2_with fail
        refine hK _ _ (.of hbe) ?_; clear hK K
        have Hl3 := Lib.hid (Hl2.out.ext hbe)
        have hcc3 := hcc2.ext hbe
        clear Hl2 hcc2 hbe
        generalize V1.alloc (.cells #[] 47) = V3 at *
        refine Dr.plan_e rfl (by rfl) (fun K hK => ?_)
        refine wp_copy encU 48 47 1 2 et48 (by decide) (by decide) encU_len _ _ rfl 0 V1.heap.size rfl hE (Nat.zero_le _) x.C x.a.casts.length x.c x.a.casts rfl rfl hcc3 (by omega) (Nat.zero_le _) (fun g2 cap V4 hown hb4 => ?_)
        refine hK _ _ (.of hb4) ?_; clear hK K
        have Hl4 := Lib.hid (Hl3.out.ext hb4)
        clear Hl3 hb4 hE hcc3
        go_frame
        refine Dr.plan_q (l := [_]) rfl (fun K hK => ?_)
        iterate 1 (go_big_quiet_step (fail))
        refine wpQuiet_nil (hK _ ?_); clear hK K
        have hbn := ext_alloc V4 (.cells #[.int .i64 x.a.min, .int .i64 x.a.ten, .int .u16 x.a.rigs, .slice (some ⟨g2, 0, none⟩) x.a.casts.length cap, .bool x.a.spare] 82)
        have hN : Blk (V4.alloc (.cells #[.int .i64 x.a.min, .int .i64 x.a.ten, .int .u16 x.a.rigs, .slice (some ⟨g2, 0, none⟩) x.a.casts.length cap, .bool x.a.spare] 82)) V4.heap.size 82 (AcV.enc ⟨x.a, some ⟨g2, 0, none⟩, cap⟩) := Blk.new V4 82 _
        refine Dr.plan_e rfl (by rfl) (fun K hK => ?_)
        go_wp2_with fail
        refine hK _ _ (.of hbn) ?_; clear hK K
        have Hl5 := Lib.hid (Hl4.out.ext hbn)
        have hown5 := hown.ext hbn
        clear Hl4 hown hbn
        generalize V4.alloc (.cells #[.int .i64 x.a.min, .int .i64 x.a.ten, .int .u16 x.a.rigs, .slice (some ⟨g2, 0, none⟩) x.a.casts.length cap, .bool x.a.spare] 82) = V5 at *
        refine Dr.plan_done (tl := [_, _, _]) rfl ?_
        have hal : av.length = k := by
          have := congrArg List.length Hl5.out.eq
          simpa [Nat.min_eq_left (Nat.le_of_lt hlt)] using this
        refine app1 AcV.enc 33 82 5 56 et33 (by decide) (by decide) acv_len acv_one rfl _ _ rfl lo v av rfl Hl5.out.own V4.heap.size rfl ⟨x.a, some ⟨g2, 0, none⟩, cap⟩ (fun j u hj => hN.cell hj) (by omega) Hl5.out.lo.2 ?_
        intro g' cap' V6 hown6 hb6 hgr6 hat6
        have HF := Lib.hid (Hl5.out.snoc (x := ⟨x.a, some ⟨g2, 0, none⟩, cap⟩) hown5 hlt Hxa.out hwg hown6 hgr6)
        have hg6 : Blk V6 g 35 _ := (hgr6.block g Hl5.out.bx.lt (fun e => by
          have := own_ne Hl5.out.own Hl5.out.bx (by decide)
          rw [← e] at this
          simp at this)).trans Hl5.out.bx
        have z0 : V6.cell? ⟨g, 0, none⟩ = some v := hg6.cell (i := 0) rfl
        have z1 := hg6.free 0
        clear Hl5 hown5 hown6 hb6 hgr6 hN hg6 hat6
        go_frame
        go_wp2
        go_roundw
        case rel => exact ⟨k + 1, _, _, by go_num, by omega, by have := HF.out; rw [hal] at this; exact this⟩
        case measure => simp [intOf]; omega
      · obtain rfl : k = s.acts.length := by omega
        have hal : av.length = s.acts.length := by
          have := congrArg List.length hl.eq
          simpa using this
        obtain ⟨Av, cv, rfl, -, -, hcv⟩ := hl.own.cells acv_len
        have s0 : wr.cell? ⟨w.heap.size, 0, none⟩ = some (.slice p.A s.acts.length p.cA) := hl.sb.cell (i := 0) rfl
        have z0 : wr.cell? ⟨g, 0, none⟩ = some _ := hl.bx.cell (i := 0) rfl
        have z1 : wr.cell? ⟨g, 1, none⟩ = some _ := hl.bx.cell (i := 1) rfl
        have z2 : wr.cell? ⟨g, 2, none⟩ = some _ := hl.bx.cell (i := 2) rfl
        have z3 : wr.cell? ⟨g, 3, none⟩ = some _ := hl.bx.cell (i := 3) rfl
        have z4 : wr.cell? ⟨g, 4, none⟩ = some _ := hl.bx.cell (i := 4) rfl
        have z5 : wr.cell? ⟨g, 5, none⟩ = some _ := hl.bx.cell (i := 5) rfl
        have z6 : wr.cell? ⟨g, 6, none⟩ = some _ := hl.bx.cell (i := 6) rfl
        have hyb := hl.yb
        unfold zerC at hyb
        have y0 : wr.cell? ⟨w.heap.size + 1, 0, none⟩ = some _ := hyb.cell (i := 0) rfl
        have f0 := hyb.free 0
        have y1 : wr.cell? ⟨w.heap.size + 1, 1, none⟩ = some _ := hyb.cell (i := 1) rfl
        have f1 := hyb.free 1
        have y2 : wr.cell? ⟨w.heap.size + 1, 2, none⟩ = some _ := hyb.cell (i := 2) rfl
        have f2 := hyb.free 2
        have y3 : wr.cell? ⟨w.heap.size + 1, 3, none⟩ = some _ := hyb.cell (i := 3) rfl
        have f3 := hyb.free 3
        have y4 : wr.cell? ⟨w.heap.size + 1, 4, none⟩ = some _ := hyb.cell (i := 4) rfl
        have f4 := hyb.free 4
        have y5 : wr.cell? ⟨w.heap.size + 1, 5, none⟩ = some _ := hyb.cell (i := 5) rfl
        have f5 := hyb.free 5
        have y6 : wr.cell? ⟨w.heap.size + 1, 6, none⟩ = some _ := hyb.cell (i := 6) rfl
        have f6 := hyb.free 6
        have b0 := hyb.set 0 (.slice Av av.length cv)
        have b1 := b0.set 1 (.slice A9 s.rest.length c9)
        have b2 := b1.set 2 (.slice A13 s.ins.length c13)
        have b3 := b2.set 3 (.slice A17 s.outs.length c17)
        have b4 := b3.set 4 (.int .i64 s.cover)
        have b5 := b4.set 5 (.int .i64 s.dull)
        have b6 := b5.set 6 (.slice A25 s.before.length c25)
        have o7 : ∀ {α : Type} {e : TypeId} {sz : Nat} {enc : α → List Value} {v : Value} {l : List α} {bs : Nat}, OwnL wr bs e sz enc v l → (35 : Nat) ≠ e → OwnL (((((((wr.setCell ⟨w.heap.size + 1, 0, none⟩ (.slice Av av.length cv)).setCell ⟨w.heap.size + 1, 1, none⟩ (.slice A9 s.rest.length c9)).setCell ⟨w.heap.size + 1, 2, none⟩ (.slice A13 s.ins.length c13)).setCell ⟨w.heap.size + 1, 3, none⟩ (.slice A17 s.outs.length c17)).setCell ⟨w.heap.size + 1, 4, none⟩ (.int .i64 s.cover)).setCell ⟨w.heap.size + 1, 5, none⟩ (.int .i64 s.dull)).setCell ⟨w.heap.size + 1, 6, none⟩ (.slice A25 s.before.length c25)) bs e sz enc v l := fun h1 hne => OwnL.othr (OwnL.othr (OwnL.othr (OwnL.othr (OwnL.othr (OwnL.othr (OwnL.othr (h1) hyb hne 0 _) b0 hne 1 _) b1 hne 2 _) b2 hne 3 _) b3 hne 4 _) b4 hne 5 _) b5 hne 6 _
        have hbl7 : Below w.heap.size w (((((((wr.setCell ⟨w.heap.size + 1, 0, none⟩ (.slice Av av.length cv)).setCell ⟨w.heap.size + 1, 1, none⟩ (.slice A9 s.rest.length c9)).setCell ⟨w.heap.size + 1, 2, none⟩ (.slice A13 s.ins.length c13)).setCell ⟨w.heap.size + 1, 3, none⟩ (.slice A17 s.outs.length c17)).setCell ⟨w.heap.size + 1, 4, none⟩ (.int .i64 s.cover)).setCell ⟨w.heap.size + 1, 5, none⟩ (.int .i64 s.dull)).setCell ⟨w.heap.size + 1, 6, none⟩ (.slice A25 s.before.length c25)) := ((((((hl.bl.setCell (by simp) _).setCell (by simp) _).setCell (by simp) _).setCell (by simp) _).setCell (by simp) _).setCell (by simp) _).setCell (by simp) _
        have HO := Lib.hid (And.intro (o7 hl.own (by decide)) (And.intro (o7 hl.r9 (by decide)) (And.intro (o7 hl.r13 (by decide)) (And.intro (o7 hl.r17 (by decide)) (o7 hl.r25 (by decide))))))
        have HC := Lib.hid (fun x hx => o7 (hl.cs x hx) (by decide))
        have HE := Lib.hid hl.eq
        have Hal := Lib.hid hal
        have Hb7 := Lib.hid hbl7
        have hb6 : Blk (((((((wr.setCell ⟨w.heap.size + 1, 0, none⟩ (.slice Av av.length cv)).setCell ⟨w.heap.size + 1, 1, none⟩ (.slice A9 s.rest.length c9)).setCell ⟨w.heap.size + 1, 2, none⟩ (.slice A13 s.ins.length c13)).setCell ⟨w.heap.size + 1, 3, none⟩ (.slice A17 s.outs.length c17)).setCell ⟨w.heap.size + 1, 4, none⟩ (.int .i64 s.cover)).setCell ⟨w.heap.size + 1, 5, none⟩ (.int .i64 s.dull)).setCell ⟨w.heap.size + 1, 6, none⟩ (.slice A25 s.before.length c25)) (w.heap.size + 1) 35 [.slice Av av.length cv, .slice A9 s.rest.length c9, .slice A13 s.ins.length c13, .slice A17 s.outs.length c17, .int .i64 s.cover, .int .i64 s.dull, .slice A25 s.before.length c25] := b6
        have HB6 := Lib.hid hb6
        clear b0 b1 b2 b3 b4 b5 b6 hb6 o7 hbl7 hl hal hyb hcv
        go_wp2
        generalize (((((((wr.setCell _ _).setCell _ _).setCell _ _).setCell _ _).setCell _ _).setCell _ _).setCell _ _) = V at *
        have k0 : V.cell? ⟨w.heap.size + 1, 0, none⟩ = some _ := HB6.out.cell (i := 0) rfl
        have k1 : V.cell? ⟨w.heap.size + 1, 1, none⟩ = some _ := HB6.out.cell (i := 1) rfl
        have k2 : V.cell? ⟨w.heap.size + 1, 2, none⟩ = some _ := HB6.out.cell (i := 2) rfl
        have k3 : V.cell? ⟨w.heap.size + 1, 3, none⟩ = some _ := HB6.out.cell (i := 3) rfl
        have k4 : V.cell? ⟨w.heap.size + 1, 4, none⟩ = some _ := HB6.out.cell (i := 4) rfl
        have k5 : V.cell? ⟨w.heap.size + 1, 5, none⟩ = some _ := HB6.out.cell (i := 5) rfl
        have k6 : V.cell? ⟨w.heap.size + 1, 6, none⟩ = some _ := HB6.out.cell (i := 6) rfl
        refine bodyPost_ret (v := .agg #[.slice Av av.length cv, .slice A9 s.rest.length c9, .slice A13 s.ins.length c13, .slice A17 s.outs.length c17, .int .i64 s.cover, .int .i64 s.dull, .slice A25 s.before.length c25]) (by simp [results, Try.results17, go_sem, k0, k1, k2, k3, k4, k5, k6]) rfl ?_
        obtain ⟨o1, o2, o3, o4, o5⟩ := HO.out
        have HO2 := HE.out
        rw [List.take_length] at HO2
        have cl : ∀ {α : Type} {e : TypeId} {sz : Nat} {enc : α → List Value} {A : Option Addr} {n c : Nat} {l : List α} {bs : Nat}, (∀ x, (enc x).length = sz) → OwnL V bs e sz enc (.slice A n c) l → Cells V A sz enc l := fun hen ho => by
          obtain ⟨A, c, e, -, -, hc⟩ := ho.cells hen
          cases e
          exact hc
        refine ⟨⟨⟨av, Av, A9, A13, A17, A25, cv, c9, c13, c17, c25⟩, by rw [Hal.out], ⟨⟨HO2, cl acv_len o1, fun x hx => cl encU_len (HC.out x hx), cl encI_len o2, cl encI_len o3, cl encI_len o4, cl encP_len o5, Hh.out.bits, Hh.out.small⟩, o2.lift Hlo9.out, by have := OwnL.up o1 (Nat.zero_le _); rw [Hal.out] at this; exact this, HC.out, o3, o4, o5, Hd1.out, Hd2.out⟩⟩, Hb7.out⟩
end Go.Proofs.Ytcnidhcdkbfpcaa
