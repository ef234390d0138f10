/- Walk: Absences (what becomes of an evening without each person). -/
import Derived.Test.YtcnidhcdkbfpcaaAbsP
import Derived.Test.YtcnidhcdkbfpcaaPrlT
import Derived.Test.YtcnidhcdkbfpcaaPrlW
import Derived.Deep.CutRange
namespace Go.Proofs.Ytcnidhcdkbfpcaa
open Go.RowKit Go.Bs Go.Pg Go.Pl Go.Sort
/-- an absence in memory -/
structure AbV where
  l : List Int
  e : Int
  d : Bool
  A : Option Addr
  c : Nat
def AbV.enc (x : AbV) : List Value := [.slice x.A x.l.length x.c, .int .i64 x.e, .bool x.d]
theorem abv_len (x : AbV) : (AbV.enc x).length = 3 := rfl
theorem abv_one (x : AbV) : ∀ u ∈ AbV.enc x, u.oneCell' = true := by intro u hu; simp [AbV.enc] at hu; rcases hu with rfl | rfl | rfl <;> rfl
theorem et74 : ElemT Try.prog 74 80 3 40 := ElemT.mk (z := .agg #[.slice none 0 0, .int .i64 0, .bool false]) Try.underlying74 (by kernel_rfl) rfl
def AbG (s : Sh) (q : Nat) (x : AbV) : Prop := x.l = toI (s.misL q) ∧ x.e = s.misE q ∧ x.d = s.misD q
def AbL (s : Sh) (L : List AbV) (n : Nat) : Prop := L.length = n ∧ ∀ q x, L[q]? = some x → AbG s q x
theorem AbL.nil {s : Sh} : AbL s [] 0 := ⟨rfl, by simp⟩
theorem AbL.snoc {s : Sh} {L : List AbV} {n : Nat} {x : AbV} (h : AbL s L n) (hx : AbG s n x) : AbL s (L ++ [x]) (n + 1) := by
  refine ⟨by simp [h.1], fun q y hy => ?_⟩
  rcases Nat.lt_or_ge q L.length with h1 | h1
  · rw [List.getElem?_append_left h1] at hy; exact h.2 q y hy
  · rw [List.getElem?_append_right h1] at hy
    have : q - L.length = 0 := by
      rcases Nat.eq_zero_or_pos (q - L.length) with h2 | h2
      · exact h2
      · rw [List.getElem?_eq_none (by simp; omega)] at hy; cases hy
    rw [this] at hy
    obtain rfl : x = y := by simpa using hy
    have : q = n := by have := h.1; omega
    rw [this]; exact hx
structure AbsM (bs : Nat) (W : World) (v : Value) (L : List AbV) : Prop where
  own : OwnL W bs 80 3 AbV.enc v L
  rows : ∀ x ∈ L, OwnL W 0 3 1 encI (.slice x.A x.l.length x.c) x.l
theorem AbsM.nil {bs : Nat} {W : World} : AbsM bs W (.slice none 0 0) [] := ⟨OwnL.nil, by simp⟩
theorem AbsM.ext {bs : Nat} {W W' : World} {v : Value} {L : List AbV} (h : AbsM bs W v L) (hb : Below W.heap.size W W') : AbsM bs W' v L := ⟨h.own.ext hb, fun x hx => (h.rows x hx).ext hb⟩
theorem AbsM.bel {bs N : Nat} {cs : List Value} {W W' : World} {v : Value} {L : List AbV} (h : AbsM bs W v L) (hN : Blk W N 80 cs) (hv : v.ownBlock ≠ some N) (hb : Dr.Bel [N] W W') : AbsM bs W' v L :=
  ⟨OwnL.bel1 h.own hb hv, fun x hx => OwnL.bel1 (h.rows x hx) hb (fun e1 => by have := own_ne (h.rows x hx) hN (by decide); rw [e1] at this; simp at this)⟩
theorem AbsM.snoc {bs : Nat} {W W' V : World} {v v' : Value} {L : List AbV} {x : AbV} (h : AbsM bs W v L) (hx : OwnL W 0 3 1 encI (.slice x.A x.l.length x.c) x.l) (hb : Below W.heap.size W W') (h1 : OwnL V bs 80 3 AbV.enc v' (L ++ [x])) (hg : W'.grownBy V v.ownBlock) : AbsM bs V v' (L ++ [x]) := by
  refine ⟨h1, fun y hy => ?_⟩
  have hy2 : OwnL W 0 3 1 encI (.slice y.A y.l.length y.c) y.l := by
    rcases List.mem_append.1 hy with h2 | h2
    · exact h.rows y h2
    · obtain rfl := List.mem_singleton.1 h2; exact hx
  exact (hy2.ext hb).kept hg (own_own (hy2.ext hb) (h.own.ext hb) (by decide))
/-- what Absences returns -/
def AbsR (bs : Nat) (s : Sh) (e : Ending) (W : World) : Prop :=
  (s.okB = false ∧ e = .returned (.tuple #[.slice none 0 0, .int .i64 1])) ∨
  (s.okB = true ∧ ∃ v L, e = .returned (.tuple #[v, .int .i64 0]) ∧ AbsM bs W v L ∧ AbL s L s.rest.length)
set_option maxRecDepth 100000 in
set_option maxHeartbeats 10000000 in
theorem Absences_any (s : Sh) (p : ShP) (w : World) (h : ShM w s p) :
    Calls Try.prog 41 #[shV s p] w fun e w' => AbsR w.heap.size s e w' ∧ Below w.heap.size w w' := by
  obtain ⟨U, hU, hall⟩ := Solve_any
  have hb0 := ext_alloc w (.cells (shC s p).toArray 35)
  have hS := Blk.new w 35 (shC s p)
  have h0 := h.ext hb0
  have CV := Lib.hid (valid_any s p _ h0)
  have H1 := Lib.hid (fun (h1 : s.okB = false) W => show AbsR w.heap.size s (.returned (.tuple #[.slice none 0 0, .int .i64 1])) W from .inl ⟨h1, rfl⟩)
  have H2 := Lib.hid (fun (h1 : s.okB = true) v L W h2 h3 => show AbsR w.heap.size s (.returned (.tuple #[v, .int .i64 0])) W from .inr ⟨h1, v, L, rfl, h2, h3⟩)
  have m2 := h.small.2.1
  have Hall := Lib.hid hall
  clear h hall hU
  unfold shV at *
  unfold shC at *
  go_enter Try.func41, Try.ntmps41
  go_upto_region 1 with fail
  change Blk (w.alloc (.cells #[.slice p.A s.acts.length p.cA, .slice p.R s.rest.length p.cR, .slice p.I s.ins.length p.cI, .slice p.O s.outs.length p.cO, .int .i64 s.cover, .int .i64 s.dull, .slice p.B s.before.length p.cB] 35)) _ _ _ at hS
  change Hid (Calls _ _ _ (w.alloc (.cells #[.slice p.A s.acts.length p.cA, .slice p.R s.rest.length p.cR, .slice p.I s.ins.length p.cI, .slice p.O s.outs.length p.cO, .int .i64 s.cover, .int .i64 s.dull, .slice p.B s.before.length p.cB] 35)) _) at CV
  generalize w.alloc (.cells #[.slice p.A s.acts.length p.cA, .slice p.R s.rest.length p.cR, .slice p.I s.ins.length p.cI, .slice p.O s.outs.length p.cO, .int .i64 s.cover, .int .i64 s.dull, .slice p.B s.before.length p.cB] 35) = W0 at *
  have x0 : W0.cell? ⟨w.heap.size, 0, none⟩ = _ := hS.cell (i := 0) rfl
  have x1 : W0.cell? ⟨w.heap.size, 1, none⟩ = _ := hS.cell (i := 1) rfl
  have x2 : W0.cell? ⟨w.heap.size, 2, none⟩ = _ := hS.cell (i := 2) rfl
  have x3 : W0.cell? ⟨w.heap.size, 3, none⟩ = _ := hS.cell (i := 3) rfl
  have x4 : W0.cell? ⟨w.heap.size, 4, none⟩ = _ := hS.cell (i := 4) rfl
  have x5 : W0.cell? ⟨w.heap.size, 5, none⟩ = _ := hS.cell (i := 5) rfl
  have x6 : W0.cell? ⟨w.heap.size, 6, none⟩ = _ := hS.cell (i := 6) rfl
  go_wp2_with fail
  refine CV.out.mono ?_; rintro e W1 ⟨rfl, hb1⟩
  clear x0 x1 x2 x3 x4 x5 x6
  have hS1 := hS.ext hb1
  have hbw := ext_trans hb0 hb1
  have hm1 := h0.ext hb1
  clear hS hb0 CV h0 hb1
  cases hok : s.okB
  · have HR := Lib.hid (H1.out hok)
    clear H2 hok
    go_wp2
    refine bodyPost_ret (v := .tuple #[.slice none 0 0, .int .i64 1]) (by simp [results, Try.results41, go_sem]) rfl ?_
    exact ⟨HR.out _, hbw⟩
  have Hok := Lib.hid (Sh.ok_of hok)
  have H2 := Lib.hid (H2.out hok)
  clear H1 hok
  have hsz1 := hbw.size
  have HE := Lib.hid (fun W (hW : Below W1.heap.size W1 W) => And.intro (hm1.ext hW) (And.intro (hS1.ext hW) (ext_trans hbw hW)))
  have x1 : W1.cell? ⟨w.heap.size, 1, none⟩ = _ := hS1.cell (i := 1) rfl
  clear hm1 hS1 hbw
  go_upto_block 0 with fail
  clear x1
  go_wp2
  go_loopw [4, 19] (fun v t wr => ∃ (pn : Nat) (L : List AbV), t = .int .i64 pn ∧ pn ≤ s.rest.length ∧ Below W1.heap.size W1 wr ∧ AbsM W1.heap.size wr v L ∧ Hid (AbL s L pn)) (fun _ t _ => s.rest.length - (intOf t).toNat)
  case atStart => exact ⟨0, [], rfl, by omega, Below.refl _ _, AbsM.nil, Lib.hid AbL.nil⟩
  case round =>
    obtain ⟨pn, L, rfl, hpn, hb, hA, HL⟩ := hrel
    obtain ⟨hm, hSw, hbw⟩ := HE.out wr hb
    by_cases hlt : pn < s.rest.length
    · have hlt' : (pn : Int) < (s.rest.length : Int) := by omega
      have CW := Lib.hid (without_any s p pn wr hm Hok.out hlt)
      have hkl := Sh.keptTo_le (s := s) (p := pn) s.acts.length
      have hn8 := Hok.out.n8
      have hwr := hb.size
      have x0 : wr.cell? ⟨w.heap.size, 0, none⟩ = _ := hSw.cell (i := 0) rfl
      have x1 : wr.cell? ⟨w.heap.size, 1, none⟩ = _ := hSw.cell (i := 1) rfl
      have x2 : wr.cell? ⟨w.heap.size, 2, none⟩ = _ := hSw.cell (i := 2) rfl
      have x3 : wr.cell? ⟨w.heap.size, 3, none⟩ = _ := hSw.cell (i := 3) rfl
      have x4 : wr.cell? ⟨w.heap.size, 4, none⟩ = _ := hSw.cell (i := 4) rfl
      have x5 : wr.cell? ⟨w.heap.size, 5, none⟩ = _ := hSw.cell (i := 5) rfl
      have x6 : wr.cell? ⟨w.heap.size, 6, none⟩ = _ := hSw.cell (i := 6) rfl
      go_wp2_with fail
      refine CW.out.mono ?_; rintro e W2 ⟨hW, hb2⟩
      clear x0 x1 x2 x3 x4 x5 x6 CW hm hSw hbw
      have hA2 := hA.ext hb2
      have hb2w := ext_trans hb hb2
      have hlo : ∀ k, u4.ownBlock = some k → k < W2.heap.size := fun k hk => (hA2.own.lt hk).2
      clear hA hb hb2
      unfold WotR at hW
      rcases hW with ⟨i, hex, rfl⟩ | ⟨hex, q, vk, rfl, hq, hk⟩
      · have hG : AbG s pn ⟨[], i, false, none, 0⟩ := ⟨by unfold Sh.misL; rw [hex]; rfl, by unfold Sh.misE; rw [hex], by unfold Sh.misD; rw [hex]⟩
        have hi0 : ¬ (i : Int) < 0 := by omega
        clear hex
        go_upto_region 8 with fail
        have hAl := ext_alloc W2 (.cells #[.slice none 0 0, .slice none 0 0, .slice none 0 0, .slice none 0 0, .int .i64 0, .int .i64 0, .slice none 0 0] 35)
        have hA3 := hA2.ext hAl
        have hb3w := ext_trans hb2w hAl
        clear hA2 hb2w hAl hlo
        generalize W2.alloc (.cells #[.slice none 0 0, .slice none 0 0, .slice none 0 0, .slice none 0 0, .int .i64 0, .int .i64 0, .slice none 0 0] 35) = W3 at *
        go_upto_region 9 with fail
        have hN : Blk (W3.alloc (.cells #[.slice none 0 0, .int .i64 (i : Int), .bool false] 80)) W3.heap.size 80 [.slice none 0 0, .int .i64 (i : Int), .bool false] := Blk.new W3 80 _
        have hAl := ext_alloc W3 (.cells #[.slice none 0 0, .int .i64 (i : Int), .bool false] 80)
        have hA4 := hA3.ext hAl
        have hb4w := ext_trans hb3w hAl
        clear hA3 hb3w hAl
        generalize W3.heap.size = N at *
        generalize W3.alloc (.cells #[.slice none 0 0, .int .i64 (i : Int), .bool false] 80) = W4 at *
        have nc0 : W4.cell? ⟨N, 0, none⟩ = some _ := hN.cell (i := 0) rfl
        have nc1 : W4.cell? ⟨N, 1, none⟩ = some _ := hN.cell (i := 1) rfl
        have nc2 : W4.cell? ⟨N, 2, none⟩ = some _ := hN.cell (i := 2) rfl
        clear hN
        have HA := Lib.hid hA4
        have Hx := Lib.hid (show OwnL W4 0 3 1 encI (.slice none 0 0) ([] : List Int) from OwnL.nil)
        have hbs := (hb4w).size
        have Hb := Lib.hid (hb4w)
        have HG := Lib.hid hG
        go_upto_region 20 with fail
        clear hA4 hb4w hG
        go_wp2_with (at_builtin; refine app1 AbV.enc 74 80 3 40 et74 (by decide) (by decide) abv_len abv_one rfl _ _ rfl W1.heap.size _ L rfl (HA.out.own.alloc _) W4.heap.size rfl (⟨[], i, false, none, 0⟩ : AbV) (fun j u hj => (Blk.new W4 80 (AbV.enc (⟨[], i, false, none, 0⟩ : AbV))).cell hj) (by have := HL.out.1; omega) (by simp; omega) ?_; intro g2 cap2 V2 h2 hb2 hg2 hat2; have HF := Lib.hid (And.intro ((Hb.out.alloc hbs _).trans hb2) (HA.out.snoc (x := (⟨[], i, false, none, 0⟩ : AbV)) Hx.out (ext_alloc W4 _) h2 hg2)); clear h2 hb2 hg2 hat2)
        go_roundw
        case rel => exact ⟨pn + 1, L ++ [(⟨[], i, false, none, 0⟩ : AbV)], by go_num, by omega, HF.out.1, HF.out.2, Lib.hid (HL.out.snoc HG.out)⟩
        case measure => simp [intOf] <;> omega
      · have Hlk := Lib.hid (fun hk0 => Sh.ok_lessW (p := pn) Hok.out hk0)
        have Hm0 := Lib.hid (show s.keptTo pn s.acts.length = [] → s.misQ pn = none from fun h => by unfold Sh.misQ; rw [if_pos h])
        have Hm1 := Lib.hid (show s.keptTo pn s.acts.length ≠ [] → s.misQ pn = (s.lessW pn).solve from fun h => by unfold Sh.misQ; rw [if_neg h])
        have Hold := Lib.hid (show ∀ qs, s.old pn qs = qs.map fun k => (s.keptTo pn s.acts.length).getD k 0 from fun _ => rfl)
        have Hbd := Lib.hid (fun q hq => Sh.misQ_bd (s := s) (p := pn) Hok.out (q := q) hq)
        have HGg := Lib.hid (show ∀ mq, s.misQ pn = mq → ∀ A c, AbG s pn ⟨toI (s.old pn (mq.getD [])), -1, mq.isNone, A, c⟩ from fun mq hm A c => ⟨by unfold Sh.misL; rw [hex, hm], by unfold Sh.misE; rw [hex], by unfold Sh.misD; rw [hex, hm]⟩)
        clear hex
        have hq2 := hq
        clear hq
        generalize hsl : s.lessW pn = sl at *
        generalize hkt : s.keptTo pn s.acts.length = kt at *
        clear hsl hkt
        obtain ⟨Ak, ck, rfl, -, -, -⟩ := hk.cells encI_len
        rw [toI_len] at hk
        rw [toI_len]
        unfold shV
        go_upto_region 8 with fail
        have hX : Blk (W2.alloc (.cells #[.slice q.A sl.acts.length q.cA, .slice q.R sl.rest.length q.cR, .slice q.I sl.ins.length q.cI, .slice q.O sl.outs.length q.cO, .int .i64 sl.cover, .int .i64 sl.dull, .slice q.B sl.before.length q.cB] 35)) W2.heap.size 35 (shC sl q) := Blk.new W2 35 (shC sl q)
        have hAl := ext_alloc W2 (.cells #[.slice q.A sl.acts.length q.cA, .slice q.R sl.rest.length q.cR, .slice q.I sl.ins.length q.cI, .slice q.O sl.outs.length q.cO, .int .i64 sl.cover, .int .i64 sl.dull, .slice q.B sl.before.length q.cB] 35)
        have hA3 := hA2.ext hAl
        have hq3 := hq2.ext hAl
        have hk3 := hk.ext hAl
        have hb3w := ext_trans hb2w hAl
        have hs3 := hAl.size
        unfold shC at hX
        clear hA2 hb2w hAl hq2 hk
        have hlo3 : ∀ k, u4.ownBlock = some k → k < (W2.alloc (.cells #[.slice q.A sl.acts.length q.cA, .slice q.R sl.rest.length q.cR, .slice q.I sl.ins.length q.cI, .slice q.O sl.outs.length q.cO, .int .i64 sl.cover, .int .i64 sl.dull, .slice q.B sl.before.length q.cB] 35)).heap.size := fun k hk => Nat.lt_of_lt_of_le (hlo k hk) hs3
        clear hlo hs3
        generalize W2.heap.size = X at *
        generalize W2.alloc (.cells #[.slice q.A sl.acts.length q.cA, .slice q.R sl.rest.length q.cR, .slice q.I sl.ins.length q.cI, .slice q.O sl.outs.length q.cO, .int .i64 sl.cover, .int .i64 sl.dull, .slice q.B sl.before.length q.cB] 35) = W3 at *
        go_upto_region 9 with fail
        have hN : Blk (W3.alloc (.cells #[.slice none 0 0, .int .i64 (-1), .bool false] 80)) W3.heap.size 80 [.slice none 0 0, .int .i64 (-1), .bool false] := Blk.new W3 80 _
        have hAl := ext_alloc W3 (.cells #[.slice none 0 0, .int .i64 (-1), .bool false] 80)
        have hA4 := hA3.ext hAl
        have hq4 := hq3.ext hAl
        have hk4 := hk3.ext hAl
        have hX4 := hX.ext hAl
        have hXN := hX.lt
        have hb4w := ext_trans hb3w hAl
        have hNw := hb3w.size
        have hu4 : u4.ownBlock ≠ some W3.heap.size := fun e1 => by have := hlo3 _ e1; omega
        clear hA3 hb3w hAl hq3 hk3 hX hlo3
        generalize W3.heap.size = N at *
        generalize W3.alloc (.cells #[.slice none 0 0, .int .i64 (-1), .bool false] 80) = W4 at *
        have hNlt := hN.lt
        have hsw4 := hb4w.size
        have hkB : (Value.slice Ak kt.length ck).ownBlock ≠ some N := fun e1 => by
          have := own_ne hk4 hN (by decide)
          rw [e1] at this
          simp at this
        have HC := Lib.hid (fun W (hW : Dr.Bel [N] W4 W) => And.intro (hA4.bel hN hu4 hW) (And.intro ((OwnL.bel1 hk4 hW hkB).cl encI_len) (show Below W1.heap.size W1 W from hb4w.trans (hW.old hsw4 (fun k hk => by simp only [List.mem_cons, List.not_mem_nil, or_false] at hk; omega)))))
        have n2 : W4.cell? ⟨N, 2, none⟩ = some _ := hN.cell (i := 2) rfl
        have f2 := hN.free 2
        clear hA4 hk4 hb4w hkB hu4
        go_upto_if 36 with fail
        clear n2 f2
        have hN5 := hN.set 2 (.bool true)
        change Blk _ N 80 [.slice none 0 0, .int .i64 (-1), .bool true] at hN5
        have hW5 : Dr.Bel [N] W4 (W4.setCell ⟨N, 2, none⟩ (.bool true)) := (Dr.Bel.refl _ _).put (p := ⟨N, 2, none⟩) (by simp) _
        have hX5 := hX4.other (p := ⟨N, 2, none⟩) (by simp; omega) (.bool true)
        have hq5 := (hq4.put hN (by decide) (by decide) (by decide) (by decide) 2 (.bool true)).m
        clear hN hX4 hq4
        generalize W4.setCell ⟨N, 2, none⟩ (.bool true) = W5 at *
        go_cut [10] from 36 to 48 (fun v W => ∃ mq, Hid (s.misQ pn = mq) ∧ Hid (∀ q, mq = some q → q.length ≤ kt.length ∧ ∀ x ∈ q, x < kt.length) ∧ OwnL W W4.heap.size 3 1 encI v (toI (mq.getD [])) ∧ Blk W N 80 [.slice none 0 0, .int .i64 (-1), .bool mq.isNone] ∧ Dr.Bel [N] W4 W)
        case first =>
          by_cases hk0 : kt = []
          · have hg : ¬ ((kt.length : Nat) : Int) > 0 := by rw [hk0]; simp
            have hmq := Hm0.out hk0
            have HF := Lib.hid (And.intro hN5 hW5)
            clear hN5 hW5 hX5 hq5 hk0
            go_wp2
            go_meet
            case rel => exact ⟨none, Lib.hid hmq, Lib.hid (fun q h => by cases h), OwnL.nil, HF.out.1, HF.out.2⟩
          · have hkp : 0 < kt.length := List.length_pos_iff.2 hk0
            have hg : ((kt.length : Nat) : Int) > 0 := by omega
            have CS := Lib.hid (Hall.out sl q W5 hq5 (Hlk.out hk0)).1
            have hmq := Hm1.out hk0
            have Hmq := Lib.hid hmq
            have hqb : ∀ qs, sl.solve = some qs → qs.length ≤ kt.length ∧ ∀ x ∈ qs, x < kt.length := fun qs h => by
              have := Hbd.out qs (hmq.trans h)
              exact ⟨Nat.le_of_eq this.1, this.2⟩
            have Hqb := Lib.hid hqb
            have hs5 := hW5.size
            clear hmq hqb Hm0 Hm1 Hlk hk0 hq5 Hall
            unfold SolR at CS
            generalize sl.solve = o at *
            have x0 : W5.cell? ⟨X, 0, none⟩ = some _ := hX5.cell (i := 0) rfl
            have x1 : W5.cell? ⟨X, 1, none⟩ = some _ := hX5.cell (i := 1) rfl
            have x2 : W5.cell? ⟨X, 2, none⟩ = some _ := hX5.cell (i := 2) rfl
            have x3 : W5.cell? ⟨X, 3, none⟩ = some _ := hX5.cell (i := 3) rfl
            have x4 : W5.cell? ⟨X, 4, none⟩ = some _ := hX5.cell (i := 4) rfl
            have x5 : W5.cell? ⟨X, 5, none⟩ = some _ := hX5.cell (i := 5) rfl
            have x6 : W5.cell? ⟨X, 6, none⟩ = some _ := hX5.cell (i := 6) rfl
            go_wp2_with fail
            refine CS.out.mono ?_; rintro e W6 ⟨v, rfl, F, S, G, O, B, n, hof, -, -, hcase⟩
            clear x0 x1 x2 x3 x4 x5 x6 CS
            have hb6 := hof.bl
            have hN6 := hN5.ext hb6
            have hW6 := hW5.trans (.of hb6)
            clear hof hb6 hN5 hW5 hX5
            have y2 : W6.cell? ⟨N, 2, none⟩ = some _ := hN6.cell (i := 2) rfl
            have f2 := hN6.free 2
            rcases hcase with ⟨rfl, rfl⟩ | ⟨qs, so, rfl, hown, rfl⟩
            · have hN7 := hN6.set 2 (.bool false)
              change Blk _ N 80 [.slice none 0 0, .int .i64 (-1), .bool false] at hN7
              have hW7 := hW6.put (p := ⟨N, 2, none⟩) (by simp) (.bool false)
              have ho7 := (show OwnL (W6.setCell ⟨N, 2, none⟩ (.bool false)) W5.heap.size 3 1 encI (.slice none 0 0) (toI ((none : Option (List Nat)).getD [])) from OwnL.nil)
              clear hN6 hW6
              go_upto_region 14 with fail
              clear y2 f2
              generalize W6.setCell ⟨N, 2, none⟩ (.bool false) = W7 at *
              have y2 : W7.cell? ⟨N, 2, none⟩ = some _ := hN7.cell (i := 2) rfl
              have f2 := hN7.free 2
              have hN8 := hN7.set 2 (.bool true)
              change Blk _ N 80 [.slice none 0 0, .int .i64 (-1), .bool true] at hN8
              have HF := Lib.hid (And.intro (OwnL.othr ho7 hN7 (by decide) 2 (.bool true)) (And.intro hN8 (hW7.put (p := ⟨N, 2, none⟩) (by simp) (.bool true))))
              clear hN7 hW7 ho7 hN8
              go_wp2
              go_meet
              case rel => exact ⟨none, Hmq, Hqb, OwnL.up HF.out.1 (by omega), HF.out.2.1, HF.out.2.2⟩
            · obtain ⟨Ao, co, rfl, -, -, -⟩ := hown.cells encI_len
              have hN7 := hN6.set 2 (.bool true)
              change Blk _ N 80 [.slice none 0 0, .int .i64 (-1), .bool true] at hN7
              have hW7 := hW6.put (p := ⟨N, 2, none⟩) (by simp) (.bool true)
              have ho7 := OwnL.othr hown hN6 (by decide) 2 (.bool true)
              clear hN6 hW6 hown
              go_upto_region 14 with fail
              clear y2 f2
              generalize W6.setCell ⟨N, 2, none⟩ (.bool true) = W7 at *
              have y2 : W7.cell? ⟨N, 2, none⟩ = some _ := hN7.cell (i := 2) rfl
              have f2 := hN7.free 2
              have hN8 := hN7.set 2 (.bool false)
              change Blk _ N 80 [.slice none 0 0, .int .i64 (-1), .bool false] at hN8
              have HF := Lib.hid (And.intro (OwnL.othr ho7 hN7 (by decide) 2 (.bool false)) (And.intro hN8 (hW7.put (p := ⟨N, 2, none⟩) (by simp) (.bool false))))
              clear hN7 hW7 ho7 hN8
              go_wp2
              go_meet
              case rel => exact ⟨some qs, Hmq, Hqb, OwnL.up HF.out.1 (by omega), HF.out.2.1, HF.out.2.2⟩
        case rest =>
          obtain ⟨mq, Hmq, Hqb, hov, hN, hW⟩ := hcut
          have HGx := Lib.hid (fun A c => HGg.out mq Hmq.out A c)
          have hqx : ∀ x ∈ mq.getD [], x < kt.length := fun x hx => by
            cases mq with
            | none => simp at hx
            | some l => exact (Hqb.out l rfl).2 x (by simpa using hx)
          have hql : (mq.getD []).length ≤ 8 := by
            cases mq with
            | none => simp
            | some l => have := (Hqb.out l rfl).1; simp; omega
          generalize mq.getD [] = qs at *
          generalize mq.isNone = dk at *
          clear Hmq Hqb HGg Hbd Hm0 Hm1 Hlk hX5 hq5 hN5 hW5 Hall
          obtain ⟨A, c, rfl, -, -, -⟩ := hov.cells encI_len
          rw [toI_len] at hov
          rw [toI_len]
          have hoB : (Value.slice A qs.length c).ownBlock ≠ some N := fun e1 => by
            have := own_ne hov hN (by decide)
            rw [e1] at this
            simp at this
          have HC2 := Lib.hid (fun W (hW : Dr.Bel [N] wc W) => (OwnL.bel1 hov hW hoB).cl encI_len)
          have hNlc : N < wc.heap.size := hN.lt
          have HW := Lib.hid hW
          have HN := Lib.hid hN
          clear hov hoB hW hN
          go_upto_block 2 with fail
          go_wp2
          go_loopw [51] (fun t wq => ∃ (k : Nat) (va : Value), t = .int .i64 k ∧ k ≤ qs.length ∧ Dr.Bel [N] wc wq ∧ Blk wq N 80 [va, .int .i64 (-1), .bool dk] ∧ OwnL wq wc.heap.size 3 1 encI va (toI (s.old pn (qs.take k)))) (fun t _ => qs.length - (intOf t).toNat)
          case atStart => exact ⟨0, _, rfl, by omega, Dr.Bel.refl _ _, HN.out, OwnL.nil⟩
          case round =>
            clear HN
            obtain ⟨k, va, rfl, hk, hW, hN, ho⟩ := hrel
            have hc2 := HC2.out wr hW
            obtain ⟨hAr, hc1, hbr⟩ := HC.out wr (HW.out.trans hW)
            by_cases hlk : k < qs.length
            · have hlk' : (k : Int) < (qs.length : Int) := by omega
              have hk0 : (0 : Int) ≤ (k : Int) := by omega
              obtain ⟨bb, ob, rfl, -, d0⟩ := hc2.at1 (k := k) (by rw [toI_len]; exact hlk) rfl
              have hxk := hqx _ (List.getElem_mem hlk)
              have e0 : (toI qs)[k]'(by rw [toI_len]; exact hlk) = ((qs[k] : Nat) : Int) := by unfold toI; simp
              rw [e0] at d0
              have hold : s.old pn (qs.take (k + 1)) = s.old pn (qs.take k) ++ [kt.getD qs[k] 0] := by
                rw [Hold.out, Hold.out, List.take_succ_eq_append_getElem hlk, List.map_append]; rfl
              generalize qs[k] = x at *
              obtain ⟨b2, o2, rfl, -, d1⟩ := hc1.at1 (k := x) (by rw [toI_len]; exact hxk) rfl
              have e1 : (toI kt)[x]'(by rw [toI_len]; exact hxk) = ((kt.getD x 0 : Nat) : Int) := by unfold toI; simp [hxk]
              rw [e1] at d1
              generalize kt.getD x 0 = y at *
              have hx0 : (0 : Int) ≤ (x : Int) := by omega
              have hx1 : (x : Int) < (kt.length : Int) := by omega
              have Hold2 := Lib.hid hold
              have holl : (toI (s.old pn (qs.take k))).length ≤ 8 := by rw [toI_len, Hold.out, List.length_map, List.length_take]; omega
              clear hold e0 e1 hc1 hc2 hqx hAr hbr
              go_upto_region 18 with fail
              refine Dr.wp_region_plan 7 [] (.q [0, 1, 2, 3, 4, 5] (.e1 6 .done)) (by kernel_rfl) (by kernel_rfl) ?_
              have hWd := hW.trans (.of (ext_drew wr))
              have hNd := hN.ext (ext_drew wr)
              have hod := ho.ext (ext_drew wr)
              have q0 := Dr.cell0 (w := wr.drew) (hNd.cell (i := 0) rfl)
              have q2 := Dr.cell0 (w := wr.drew) (show wr.drew.cell? _ = _ from d1)
              clear hW hN ho d0 d1
              generalize World.drew _ = V at *
              refine Dr.plan_q (l := [_, _, _, _, _, _]) rfl (fun K hK => ?_)
              iterate 6 (go_big_quiet_step (fail))
              refine wpQuiet_nil (hK _ ?_); clear hK K q0 q2
              have hba := ext_alloc V (.cells #[.int .i64 (y : Int)] 3)
              have hnew : Blk (V.alloc (.cells #[.int .i64 (y : Int)] 3)) V.heap.size 3 [.int .i64 (y : Int)] := Blk.new V 3 _
              refine Dr.plan_e rfl (by rfl) (fun K hK => ?_)
              go_wp2_with fail
              refine hK _ _ (.of hba) ?_; clear hK K
              have hN3 := hNd.ext hba
              have ho3 := hod.ext hba
              have hW3 := hWd.trans (.of hba)
              have hsz := hW3.size
              clear hNd hod hWd hba
              generalize V.alloc (.cells #[.int .i64 (y : Int)] 3) = V2 at *
              refine Dr.plan_done (tl := [_, _, _]) rfl ?_
              refine app1 encI 23 3 1 8 et23 (by decide) (by decide) encI_len encI_one rfl _ _ rfl wc.heap.size _ (toI (s.old pn (qs.take k))) rfl ho3 V.heap.size rfl (y : Int) (encI_cell (hnew.cell rfl)) (by omega) hsz ?_
              intro g' cap' V3 hown hb3 hg3 hat3
              have hN4 := blk_grown hN3 hg3 (own_lo ho3 hNlc)
              have z3 : V3.cell? ⟨N, 0, none⟩ = _ := hN4.cell (i := 0) rfl
              have f3 := hN4.free 0
              have HF := Lib.hid (And.intro ((bel_grown2 hW3 hg3 (fun k hk => (ho3.lt hk).1)).put (p := ⟨N, 0, none⟩) (by simp) (.slice (some ⟨g', 0, none⟩) ((toI (s.old pn (qs.take k))).length + 1) cap')) (And.intro (hN4.set 0 (.slice (some ⟨g', 0, none⟩) ((toI (s.old pn (qs.take k))).length + 1) cap')) (OwnL.othr hown hN4 (by decide) 0 (.slice (some ⟨g', 0, none⟩) ((toI (s.old pn (qs.take k))).length + 1) cap'))))
              clear hN3 ho3 hW3 hown hb3 hg3 hat3 hN4 hnew
              go_frame
              go_wp2
              go_roundw
              case rel => exact ⟨k + 1, _, by go_num, by omega, HF.out.1, HF.out.2.1, by rw [Hold2.out, toI_snoc]; exact HF.out.2.2⟩
              case measure => simp [intOf] <;> omega
            · obtain rfl : k = qs.length := by omega
              rw [List.take_length] at ho
              obtain ⟨Av, cv, rfl, -, -, -⟩ := ho.cells encI_len
              have nc0 : wr.cell? ⟨N, 0, none⟩ = some _ := hN.cell (i := 0) rfl
              have nc1 : wr.cell? ⟨N, 1, none⟩ = some _ := hN.cell (i := 1) rfl
              have nc2 : wr.cell? ⟨N, 2, none⟩ = some _ := hN.cell (i := 2) rfl
              have hx0 := OwnL.up ho (Nat.zero_le _)
              have hGx := HGx.out Av cv
              clear hN hW hc1 hc2 ho HC HC2 HW Hold HGx hqx

              have HA := Lib.hid hAr
              have Hx := Lib.hid hx0
              have hbs := (hbr).size
              have Hb := Lib.hid (hbr)
              have HG := Lib.hid hGx
              go_upto_region 20 with fail
              clear hAr hbr hx0 hGx
              go_wp2_with (at_builtin; refine app1 AbV.enc 74 80 3 40 et74 (by decide) (by decide) abv_len abv_one rfl _ _ rfl W1.heap.size _ L rfl (HA.out.own.alloc _) wr.heap.size rfl (⟨toI (s.old pn qs), -1, dk, Av, cv⟩ : AbV) (fun j u hj => (Blk.new wr 80 (AbV.enc (⟨toI (s.old pn qs), -1, dk, Av, cv⟩ : AbV))).cell hj) (by have := HL.out.1; omega) (by simp; omega) ?_; intro g2 cap2 V2 h2 hb2 hg2 hat2; have HF := Lib.hid (And.intro ((Hb.out.alloc hbs _).trans hb2) (HA.out.snoc (x := (⟨toI (s.old pn qs), -1, dk, Av, cv⟩ : AbV)) Hx.out (ext_alloc wr _) h2 hg2)); clear h2 hb2 hg2 hat2)
              go_roundw
              case rel => exact ⟨pn + 1, L ++ [(⟨toI (s.old pn qs), -1, dk, Av, cv⟩ : AbV)], by go_num, by omega, HF.out.1, HF.out.2, Lib.hid (HL.out.snoc HG.out)⟩
              case measure => simp [intOf] <;> omega
    · obtain rfl : pn = s.rest.length := by omega
      have HR := Lib.hid (H2.out u4 L wr ⟨OwnL.up hA.own hsz1, hA.rows⟩ HL.out)
      clear hA HL hm hSw hb
      go_wp2
      refine bodyPost_ret (v := .tuple #[u4, .int .i64 0]) (by simp [results, Try.results41, go_sem]) rfl ?_
      exact ⟨HR.out, hbw⟩
end Go.Proofs.Ytcnidhcdkbfpcaa
