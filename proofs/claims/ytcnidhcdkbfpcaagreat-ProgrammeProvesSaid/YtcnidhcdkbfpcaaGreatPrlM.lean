/- Walks: the functions within bounded: a table's number, a row's shape, the test of a next act. -/
import Derived.Test.YtcnidhcdkbfpcaaGreatPrlG
import Derived.Laws.EntriesVeiled
namespace Go.Proofs.YtcnidhcdkbfpcaaGreat
open Go.RowKit Go.Bs Go.Pg Go.Pl Go.Sort
/-- the table's and the number's boxes -/
structure AtB (s : Sh) (A : Option Addr) (m c : Nat) (T : List (List Int)) (TB NB : Nat) (W : World) : Prop where
  t : W.cell? ⟨TB, 0, none⟩ = some (.slice A m c)
  n : W.cell? ⟨NB, 0, none⟩ = some (.int .i64 s.acts.length)
  tab : TabA W A T
theorem AtB.ext {s : Sh} {A : Option Addr} {m c : Nat} {T : List (List Int)} {TB NB : Nat} {W W' : World} (h : AtB s A m c T TB NB W) (hb : Below W.heap.size W W') : AtB s A m c T TB NB W' :=
  ⟨cell_ext h.t hb, cell_ext h.n hb, h.tab.ext hb⟩
set_option maxRecDepth 100000 in
set_option maxHeartbeats 1000000 in
theorem at_any (s : Sh) (A : Option Addr) (m c : Nat) (T : List (List Int)) (TB NB : Nat) (x : St) (W : World) (h : AtB s A m c T TB NB W) (hok : s.Ok) (hm : T.length = m) (hsh : s.shapeB T = true) (hx : StOk s x) :
    Calls Tryz.prog 55 #[St.val x, .pointer (some ⟨TB, 0, none⟩), .pointer (some ⟨NB, 0, none⟩)] W fun e W' => e = .returned (.int .i64 (s.atT T x)) ∧ Below W.heap.size W W' := by
  obtain ⟨set, last, sec⟩ := x
  obtain ⟨hs1, hs2⟩ := shape_bad hsh
  have hX := Blk.new W 65 [.int .u16 set, .int .i64 last, .int .i64 sec]
  have hb0 := ext_alloc W (.cells #[.int .u16 set, .int .i64 last, .int .i64 sec] 65)
  have h0 := h.ext hb0
  have hl : last < s.acts.length := hx.last
  have hc : sec < s.acts.length := hx.sec
  have hst : set < T.length := by
    rw [hs1]
    have := hx.set
    unfold Sh.whole
    have h1 := Nat.two_pow_pos s.acts.length
    show set < _
    have : set < 2 ^ s.acts.length := this
    omega
  have n8 := hok.n8
  clear h hsh hx
  obtain ⟨b0, off, b1, o1, c1, hA, q0, q1⟩ := (h0.tab.ext (ext_drew _)).at (s := s) rfl (fun t ht => (hs2 t ht).1) hst hl hc
  subst hA
  have hT := h0.t
  have hN := h0.n
  obtain ⟨hmu, hmu64⟩ := mul64 (show last ≤ 8 by omega) n8 (x := last * s.acts.length) rfl
  have hid := tab_bd hl hc
  rw [hm] at hst
  generalize s.atT T ⟨set, last, sec⟩ = v at *
  unfold St.val
  clear h0 hs1 hs2
  go_enter Tryz.func55, Tryz.ntmps55
  go_upto_region 1 with fail
  change Blk (W.alloc (.cells #[.int .u16 set, .int .i64 last, .int .i64 sec] 65)) _ _ _ at hX
  generalize W.alloc (.cells #[.int .u16 set, .int .i64 last, .int .i64 sec] 65) = W0 at *
  refine Dr.wp_region_plan 15 [] (.q [0, 1, 2, 3, 4, 5, 6, 7, 8, 9, 10, 11, 12, 13, 14] .done) (by kernel_rfl) (by kernel_rfl) ?_
  have hb1 := ext_trans hb0 (ext_drew W0)
  have hXd := hX.ext (ext_drew W0)
  have r0 : W0.drew.cell? ⟨TB, 0, none⟩ = _ := cell_ext hT (ext_drew W0)
  have r1 : W0.drew.cell? ⟨NB, 0, none⟩ = _ := cell_ext hN (ext_drew W0)
  clear hb0 hX hT hN
  generalize World.drew _ = V at *
  have z0 := Dr.cell0 (hXd.cell (i := 0) rfl)
  have z1 := Dr.cell0 (hXd.cell (i := 1) rfl)
  have z2 := Dr.cell0 (hXd.cell (i := 2) rfl)
  have r0 := Dr.cell0 r0
  have r1 := Dr.cell0 r1
  have q0 := Dr.cell0 q0
  have q1 := Dr.cell0 q1
  generalize s.acts.length * s.acts.length = nn at *
  generalize last * s.acts.length = an at *
  obtain ⟨ix, hix⟩ : ∃ ix : Nat, ix = an + sec := ⟨_, rfl⟩
  rw [← hix] at hid q1
  have hsum : (an : Int) + (sec : Int) = (ix : Int) := by omega
  have hs0 : (0 : Int) ≤ (set : Int) := by omega
  have hs9 : (set : Int) < (m : Int) := by omega
  have hix0 : (0 : Int) ≤ (ix : Int) := by omega
  have hix1 : (ix : Int) < (nn : Int) := by omega
  have Hix := Lib.hid hix
  clear hix hXd hid hst
  refine Dr.plan_q (l := [_, _, _, _, _, _, _, _, _, _, _, _, _, _, _]) rfl (fun K hK => ?_)
  iterate 15 (go_big_quiet_step (fail))
  refine wpQuiet_nil (hK _ ?_); clear hK K z0 z1 z2 r0 r1 q0 q1
  refine Dr.plan_end rfl ?_
  go_wp2
  go_ret
  exact ⟨rfl, hb1⟩
theorem in_ok (l : List Int) (w : World) : PredF Tryz.prog 58 #[] #[] (Value.int .i64) (fun n => btw n 0 1000000) w l := by
  intro W x hx hb
  have C1 := Lib.hid (fun W => within_any x 0 1000000 W)
  show Calls Tryz.prog 58 #[.int .i64 x] W fun e w' => e = .returned (.bool (btw x 0 1000000)) ∧ Below W.heap.size W w'
  generalize btw x 0 1000000 = b1 at *
  clear hx hb
  go_enter Tryz.func58, Tryz.ntmps58
  go_wp2_with fail
  refine (C1.out _).mono ?_; rintro e w1 ⟨rfl, rfl⟩
  go_wp2
  go_ret
  exact ⟨rfl, Below.refl _ _⟩
/-- is a row right? -/
def rowB (s : Sh) (r : List Int) : Bool := decide (r.length = s.acts.length * s.acts.length) && r.all fun k => btw k 0 1000000
set_option maxRecDepth 100000 in
theorem row_any (s : Sh) (NB : Nat) (x : RwV) (W : World) (n8 : s.acts.length ≤ 8) (hN : W.cell? ⟨NB, 0, none⟩ = some (.int .i64 s.acts.length)) (hx : Cells W x.A 1 encI x.r) (hl : x.r.length ≤ 9223372036854775807) :
    Calls Tryz.prog 57 #[RwV.val x, .pointer (some ⟨NB, 0, none⟩)] W fun e W' => e = .returned (.bool (rowB s x.r)) ∧ Below W.heap.size W W' := by
  have CA := Lib.hid (all_int 58 #[] #[] (fun n => btw n 0 1000000) x.A x.r.length x.c x.r W (enters_of Tryz.func58 (by kernel_rfl) rfl) rfl hl hx (in_ok x.r W))
  obtain ⟨hmu, hmu64⟩ := mul64 n8 n8 (x := s.acts.length * s.acts.length) rfl
  have HR := Lib.hid (show rowB s x.r = (decide (x.r.length = s.acts.length * s.acts.length) && x.r.all fun k => btw k 0 1000000) from rfl)
  generalize rowB s x.r = res at *
  generalize (x.r.all fun k => btw k 0 1000000) = al at *
  generalize s.acts.length * s.acts.length = nn at *
  unfold RwV.val
  clear hx
  by_cases h : x.r.length = nn
  · have h1 : ((x.r.length : Int) == (nn : Int)) = true := by rw [int_beq]; simp [h]
    have HR2 : Hid (res = al) := Lib.hid (by rw [HR.out]; simp [h])
    have Hh := Lib.hid h
    clear h HR
    go_enter Tryz.func57, Tryz.ntmps57
    go_wp2_with fail
    refine CA.out.mono ?_; rintro e w1 ⟨rfl, hb⟩
    go_wp2
    go_ret
    exact ⟨ret_congr (bool_congr HR2.out.symm), hb⟩
  · have h1 : ((x.r.length : Int) == (nn : Int)) = false := by rw [int_beq]; simp [h]
    have HR2 : Hid (res = false) := Lib.hid (by rw [HR.out]; simp [h])
    have Hh := Lib.hid h
    clear h HR
    go_enter Tryz.func57, Tryz.ntmps57
    go_wp2
    go_ret
    exact ⟨ret_congr (bool_congr HR2.out.symm), Below.refl _ _⟩
set_option maxRecDepth 100000 in
set_option maxHeartbeats 1000000 in
theorem test_any (s : Sh) (A : Option Addr) (m c : Nat) (T : List (List Int)) (TB NB FB XB : Nat) (x : St) (y : Nx) (W : World) (h : AtB s A m c T TB NB W) (hok : s.Ok) (hm : T.length = m) (hsh : s.shapeB T = true) (hx : StOk s x) (hy : y ∈ s.fol x)
    (hF : W.cell? ⟨FB, 0, none⟩ = some (.func (.func 55) #[] #[.pointer (some ⟨TB, 0, none⟩), .pointer (some ⟨NB, 0, none⟩)])) (hX0 : W.cell? ⟨XB, 0, none⟩ = some (.int .u16 x.set)) (hX1 : W.cell? ⟨XB, 1, none⟩ = some (.int .i64 x.last)) (hX2 : W.cell? ⟨XB, 2, none⟩ = some (.int .i64 x.sec))
    (hv : ∀ z, StOk s z → 0 ≤ s.atT T z ∧ s.atT T z ≤ 1000000) :
    Calls Tryz.prog 60 #[Nx.val y, .pointer (some ⟨FB, 0, none⟩), .pointer (some ⟨XB, 0, none⟩)] W fun e W' => e = .returned (.bool (decide (s.atT T x > y.cost + s.atT T y.st))) ∧ Below W.heap.size W W' := by
  have hyo := hx.fol hy
  have hyc : 0 ≤ y.cost ∧ y.cost ≤ 1960 := by
    obtain ⟨k, -, -, rfl⟩ := Sh.fol_mem hy
    exact hok.chC _ _
  have hv1 := hv x hx
  have hv2 := hv y.st hyo
  have C1 := Lib.hid (fun V hb => at_any s A m c T TB NB x V (h.ext hb) hok hm hsh hx)
  have C2 := Lib.hid (fun V hb => at_any s A m c T TB NB y.st V (h.ext hb) hok hm hsh hyo)
  obtain ⟨act, cost, ⟨set, last, sec⟩⟩ := y
  obtain ⟨xs, xl, xc⟩ := x
  simp only at hyc hX0 hX1 hX2
  have hb0 := ext_alloc W (.cells #[.int .i64 act, .int .i64 cost, .int .u16 set, .int .i64 last, .int .i64 sec] 94)
  have hY := Blk.new W 94 [.int .i64 act, .int .i64 cost, .int .u16 set, .int .i64 last, .int .i64 sec]
  simp only
  generalize s.atT T ⟨xs, xl, xc⟩ = v1 at *
  generalize s.atT T ⟨set, last, sec⟩ = v2 at *
  unfold Nx.val
  unfold St.val at C1 C2
  clear h hok hm hsh hx hy hv hyo
  go_enter Tryz.func60, Tryz.ntmps60
  go_upto_region 1 with fail
  change Blk (W.alloc (.cells #[.int .i64 act, .int .i64 cost, .int .u16 set, .int .i64 last, .int .i64 sec] 94)) _ _ _ at hY
  generalize W.alloc (.cells #[.int .i64 act, .int .i64 cost, .int .u16 set, .int .i64 last, .int .i64 sec] 94) = W0 at *
  refine Dr.wp_region_plan 12 [] (.q [0, 1, 3, 4, 5, 6, 7] (.e1 2 (.e1 8 (.q [9, 10, 11] .done)))) (by kernel_rfl) (by kernel_rfl) ?_
  have hb1 := ext_trans hb0 (ext_drew W0)
  have hYd := hY.ext (ext_drew W0)
  have r0 : W0.drew.cell? ⟨FB, 0, none⟩ = _ := cell_ext hF hb1
  have r1 : W0.drew.cell? ⟨XB, 0, none⟩ = _ := cell_ext hX0 hb1
  have r2 : W0.drew.cell? ⟨XB, 1, none⟩ = _ := cell_ext hX1 hb1
  have r3 : W0.drew.cell? ⟨XB, 2, none⟩ = _ := cell_ext hX2 hb1
  clear hb0 hY hF hX0 hX1 hX2
  generalize World.drew _ = V at *
  have z0 := Dr.cell0 (hYd.cell (i := 0) rfl)
  have z1 := Dr.cell0 (hYd.cell (i := 1) rfl)
  have z2 := Dr.cell0 (hYd.cell (i := 2) rfl)
  have z3 := Dr.cell0 (hYd.cell (i := 3) rfl)
  have z4 := Dr.cell0 (hYd.cell (i := 4) rfl)
  have r0 := Dr.cell0 r0
  have r1 := Dr.cell0 r1
  have r2 := Dr.cell0 r2
  have r3 := Dr.cell0 r3
  clear hYd
  refine Dr.plan_q (l := [_, _, _, _, _, _, _]) rfl (fun K hK => ?_)
  iterate 7 (go_big_quiet_step (fail))
  refine wpQuiet_nil (hK _ ?_); clear hK K z0 z1 z2 z3 z4 r0 r1 r2 r3
  refine Dr.plan_e rfl (by rfl) (fun K hK => ?_)
  go_wp2_with fail
  refine (C1.out _ hb1).mono ?_; rintro e w1 ⟨rfl, hb2⟩
  refine hK _ _ (.of hb2) ?_; clear hK K
  have hb12 := ext_trans hb1 hb2
  refine Dr.plan_e rfl (by rfl) (fun K hK => ?_)
  go_wp2_with fail
  refine (C2.out _ hb12).mono ?_; rintro e w2 ⟨rfl, hb3⟩
  refine hK _ _ (.of hb3) ?_; clear hK K
  refine Dr.plan_q (l := [_, _, _]) rfl (fun K hK => ?_)
  iterate 3 (go_big_quiet_step (fail))
  refine wpQuiet_nil (hK _ ?_); clear hK K
  refine Dr.plan_end rfl ?_
  go_wp2
  go_ret
  exact ⟨rfl, ext_trans hb12 hb3⟩
end Go.Proofs.YtcnidhcdkbfpcaaGreat
