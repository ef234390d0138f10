/- Walks: the memo of costs, firsts, best, index. -/
import Derived.Maps.OwnSet
import Derived.Maps.OwnOps
import Derived.DeepKeys4
import Derived.Test.YtcnidhcdkbfpcaaGreatPgE
/- The states' map: keys, what it holds. -/
namespace Go.Proofs.YtcnidhcdkbfpcaaGreat
open Go.RowKit Go.Bs Go.Pg Go.Pl Go.Sort
theorem kt90 : Tryz.prog.keyType 65 = true := by kernel_rfl
theorem ts178 : Tryz.prog.types.size = 158 := by kernel_rfl
theorem co90 : Tryz.prog.cellsOf 65 = 3 := by kernel_rfl
theorem co47 : Tryz.prog.cellsOf 46 = 1 := by kernel_rfl
theorem co3 : Tryz.prog.cellsOf 3 = 1 := by kernel_rfl
theorem laidOut : laidOutB Tryz.prog = true := by kernel_rfl
theorem row90 : (65 : TypeId) < Tryz.prog.types.size := of_decide_eq_true (by kernel_rfl)
theorem kta90 : Tryz.prog.keyTypeAt 2 65 = true := by kernel_rfl
set_option maxRecDepth 100000 in
theorem law90 : Maps.Keyed Tryz.prog 65 := by
  have h := @deep_law_laid Tryz.prog laidOut 2 (by omega) 65 row90 kta90
  rw [Tryz.underlying65] at h
  exact Maps.Keyed.of_law (h rfl)
theorem zero3 (w : World) : (zeroValue 3).run Tryz.prog w = .ok (.int .i64 0) w := by kernel_rfl
theorem lits47 (d : Nat) (n : Int) (h : (Lit.int .u16 n).wf = true) : Tryz.prog.keyLits (d + 1) 46 [.int .u16 n] = some [.int .u16 n] := by
  unfold Program.keyLits
  rw [Tryz.underlying46]
  simp only [h, and_self, if_true]
theorem lits3 (d : Nat) (n : Int) (h : (Lit.int .i64 n).wf = true) : Tryz.prog.keyLits (d + 1) 3 [.int .i64 n] = some [.int .i64 n] := by
  unfold Program.keyLits
  rw [Tryz.underlying3]
  simp only [h, and_self, if_true]
theorem lits90 (d : Nat) (a b c : Int) (h1 : (Lit.int .u16 a).wf = true) (h2 : (Lit.int .i64 b).wf = true) (h3 : (Lit.int .i64 c).wf = true) :
    Tryz.prog.keyLits (d + 1 + 1) 65 [.int .u16 a, .int .i64 b, .int .i64 c] = some [.int .u16 a, .int .i64 b, .int .i64 c] := by
  unfold Program.keyLits
  rw [Tryz.underlying65]
  simp [co90, co47, co3, lits47 d a h1, lits3 d b h2, lits3 d c h3]
theorem key_some (x : St) (h1 : x.set < 65536) (h2 : x.last < 65536) (h3 : x.sec < 65536) : ∃ kl, keyOf Tryz.prog 65 (St.val x) = some kl := by
  obtain ⟨set, last, sec⟩ := x
  simp only at h1 h2 h3
  have hf : (St.val ⟨set, last, sec⟩).formed Tryz.prog 65 = true := by simp [St.val, Value.formed, Tryz.underlying65, co90]
  have hl := lits90 157 set last sec (WalkArith.wf_u16 (by omega)) (WalkArith.wf_i64 (by omega)) (WalkArith.wf_i64 (by omega))
  refine ⟨.string (keyBytes [.int .u16 set, .int .i64 last, .int .i64 sec]), ?_⟩
  rw [keyOf, Tryz.underlying65]
  simp only [kt90, hf, Bool.true_and, if_true]
  rw [ts178]
  show Option.map _ (Tryz.prog.keyLits (157 + 1 + 1) 65 [.int .u16 (set : Int), .int .i64 (last : Int), .int .i64 (sec : Int)]) = _
  rw [hl]
  rfl
/-- What the map in block B holds: of states, their least costs. (At most n entries.) -/
def MapG (s : Sh) (W : World) (B n : Nat) : Prop :=
  ∃ D : DataW Unit, W.ownsMap Tryz.prog 65 (plainElem Tryz.prog 3) B n D ∧ ∀ (x : St) (kl : Lit), keyOf Tryz.prog 65 (St.val x) = some kl → Maps.has D kl = true → ∀ z, D.atKey kl z = .lit (.int .i64 (s.best x))
section
variable {s : Sh} {W W' : World} {B n : Nat}
theorem MapG.made (s : Sh) (w : World) : MapG s (w.alloc (.map #[] 0)) w.heap.size 0 :=
  ⟨.map [], World.ownsMap_made _ _ _ _, fun x kl _ h => by cases h⟩
theorem MapG.mono (h : MapG s W B n) {m : Nat} (hm : n ≤ m) : MapG s W B m := by
  obtain ⟨D, h1, h2⟩ := h
  exact ⟨D, h1.mono hm, h2⟩
theorem MapG.kept {row : Option Nat} (h : MapG s W B n) (hg : W.grownBy W' row) (hne : some B ≠ row) : MapG s W' B n := by
  obtain ⟨D, h1, h2⟩ := h
  exact ⟨D, h1.kept hg hne, h2⟩
theorem MapG.ext (h : MapG s W B n) (hb : Below W.heap.size W W') : MapG s W' B n := h.kept (grown_of_ext hb none) (by simp)
theorem MapG.lt (h : MapG s W B n) : B < W.heap.size := by obtain ⟨D, h1, -⟩ := h; exact h1.lt
theorem MapG.set (h : MapG s W B n) {p : Addr} (hp : B ≠ p.block) (u : Value) : MapG s (W.setCell p u) B n :=
  h.kept (grownBy_setCell W p u) (fun e => hp (by cases e; rfl))
theorem MapG.alloc (h : MapG s W B n) (o : Obj) : MapG s (W.alloc o) B n := h.ext (ext_alloc W o)
end
theorem stVal_inj {x y : St} (h : St.val x = St.val y) : x = y := by
  obtain ⟨a, b, c⟩ := x
  obtain ⟨d, e, f⟩ := y
  simp [St.val] at h
  obtain ⟨h1, h2, h3⟩ := h
  have : a = d := by omega
  have : b = e := by omega
  have : c = f := by omega
  subst_vars; rfl
/-- what a put keeps right -/
theorem good_put {s : Sh} {D : DataW Unit} {x0 : St} {kl0 : Lit} (hm : Maps.IsMap D) (hk : keyOf Tryz.prog 65 (St.val x0) = some kl0)
    (h : ∀ (x : St) (kl : Lit), keyOf Tryz.prog 65 (St.val x) = some kl → Maps.has D kl = true → ∀ z, D.atKey kl z = .lit (.int .i64 (s.best x))) :
    ∀ (x : St) (kl : Lit), keyOf Tryz.prog 65 (St.val x) = some kl → Maps.has (D.put kl0 (.lit (.int .i64 (s.best x0)))) kl = true → ∀ z, (D.put kl0 (.lit (.int .i64 (s.best x0)))).atKey kl z = .lit (.int .i64 (s.best x)) := by
  intro x kl hx hh z
  by_cases e : kl = kl0
  · subst e
    have hxx := stVal_inj (law90.inj hx hk)
    subst hxx
    exact Maps.atKey_put_same hm (law90.key hk) _ z
  · rw [Maps.has_put_other e] at hh
    rw [Maps.atKey_put_other e]
    exact h x kl hx hh z
/-- how many stores a search may make -/
def updN : Nat → Nat
  | 0 => 1
  | k + 1 => 1 + 8 * updN k
theorem updN_le {k m : Nat} (h : k ≤ m) : updN k ≤ updN m := by
  induction m with
  | zero => obtain rfl : k = 0 := by omega
            exact Nat.le_refl _
  | succ m ih =>
    by_cases e : k = m + 1
    · rw [e]; exact Nat.le_refl _
    · have := ih (by omega)
      have h2 : updN (m + 1) = 1 + 8 * updN m := rfl
      omega
theorem updN_8 {k : Nat} (h : k ≤ 8) : updN k ≤ 100000000 := Nat.le_trans (updN_le h) (by decide)
/-- what the closure's boxes hold -/
structure OfM (w0 : World) (s : Sh) (p : ShP) (F S G O B : Nat) (W : World) : Prop where
  bl : Below w0.heap.size w0 W
  f : Blk W F 86 [.map (some B)]
  sb : Blk W S 37 (shC s p)
  g : Blk W G 91 [.func (.func 49) #[shV s p] #[]]
  o : Blk W O 60 [.func (.func 74) #[] #[.pointer (some ⟨F, 0, none⟩), .pointer (some ⟨S, 0, none⟩), .pointer (some ⟨G, 0, none⟩), .pointer (some ⟨O, 0, none⟩)]]
  hB : w0.heap.size ≤ B
  ne : B ≠ F ∧ B ≠ S ∧ B ≠ G ∧ B ≠ O
section
variable {w0 W W' : World} {s : Sh} {p : ShP} {F S G O B : Nat}
theorem OfM.bel (h : OfM w0 s p F S G O B W) (hb : Dr.Bel [B] W W') : OfM w0 s p F S G O B W' := by
  obtain ⟨n1, n2, n3, n4⟩ := h.ne
  exact ⟨h.bl.trans (hb.old h.bl.size (by have := h.hB; simp; omega)), hb.blk h.f (by simp; omega), hb.blk h.sb (by simp; omega), hb.blk h.g (by simp; omega), hb.blk h.o (by simp; omega), h.hB, h.ne⟩
theorem OfM.ext (h : OfM w0 s p F S G O B W) (hb : Below W.heap.size W W') : OfM w0 s p F S G O B W' := h.bel (.of hb)
end
end Go.Proofs.YtcnidhcdkbfpcaaGreat

/- Walk: the least cost of what is still to come (a closure that calls itself, with a map of what it knows). -/
namespace Go.Pg
open Go.Pl
def startV (s : Sh) (x : St) : Int := if x.set = s.whole then 0 else maxT
def bestTo (s : Sh) (x : St) (i : Nat) : Int := minL (startV s x) (((s.fol x).take i).map fun y => y.cost + s.best y.st)
theorem bestTo_zero (s : Sh) (x : St) : bestTo s x 0 = startV s x := rfl
theorem bestTo_succ {s : Sh} {x : St} {i : Nat} (h : i < (s.fol x).length) : bestTo s x (i + 1) = min (bestTo s x i) ((s.fol x)[i].cost + s.best (s.fol x)[i].st) := by
  unfold bestTo
  rw [List.take_succ_eq_append_getElem h, List.map_append, minL_append]
  rfl
theorem bestTo_end (s : Sh) (x : St) : bestTo s x (s.fol x).length = s.best x := by
  unfold bestTo
  rw [List.take_length, Sh.best_min]
  rfl
theorem startV_bd (s : Sh) (x : St) : 0 ≤ startV s x ∧ startV s x ≤ 1000000 := by unfold startV maxT; split <;> omega
theorem bestTo_bd {s : Sh} (hok : s.Ok) (x : St) (i : Nat) : 0 ≤ bestTo s x i ∧ bestTo s x i ≤ 1000000 := by
  have h1 := startV_bd s x
  constructor
  · unfold bestTo
    rcases minL_hit (startV s x) (((s.fol x).take i).map fun y => y.cost + s.best y.st) with h | h
    · rw [h]; exact h1.1
    · obtain ⟨y, hy, e⟩ := List.mem_map.1 h
      obtain ⟨c, -, -, rfl⟩ := Sh.fol_mem (List.mem_of_mem_take hy)
      have h2 := hok.chC x.last c
      have h3 := Sh.best_bd hok (s.nx x c).st
      have h4 : (s.nx x c).cost = s.chC x.last c := rfl
      omega
  · exact Int.le_trans (minL_le _ _) h1.2
theorem fol_len (s : Sh) (x : St) : (s.fol x).length ≤ s.acts.length := folTo_len s x s.acts.length
end Go.Pg
namespace Go.Proofs.YtcnidhcdkbfpcaaGreat
open Go.RowKit Go.Bs Go.Pg Go.Pl Go.Sort
def OfC (w0 : World) (s : Sh) (p : ShP) (F S G O B : Nat) (x : St) (U : Nat) : Prop :=
  ∀ (n : Nat) (W : World), OfM w0 s p F S G O B W → MapG s W B n → n + U ≤ 1000000000000000000 →
    Calls Tryz.prog 74 #[St.val x, .pointer (some ⟨F, 0, none⟩), .pointer (some ⟨S, 0, none⟩), .pointer (some ⟨G, 0, none⟩), .pointer (some ⟨O, 0, none⟩)] W fun e W' => e = .returned (.int .i64 (s.best x)) ∧ Dr.Bel [B] W W' ∧ MapG s W' B (n + U)
set_option maxRecDepth 100000 in
set_option maxHeartbeats 4000000 in
theorem of_step (s : Sh) (p : ShP) (w0 : World) (F S G O B : Nat) (h0 : ShM w0 s p) (hok : s.Ok) (x : St) (hx : StOk s x) (U : Nat) (ih : ∀ y ∈ s.fol x, OfC w0 s p F S G O B y.st U) :
    OfC w0 s p F S G O B x ((s.fol x).length * U + 1) := by
  intro n W hof hmap hn
  have hn8 := hok.n8
  have hs := hx.lt hok
  obtain ⟨kl, hkey⟩ := key_some x hs (by have := hx.last; omega) (by have := hx.sec; omega)
  have CF := Lib.hid (fun V (hV : Below w0.heap.size w0 V) => follows_any s p x V (h0.ext hV) hok hx)
  have CW := Lib.hid (fun V => whole_any s p V hn8)
  have hbb : 0 ≤ s.best x ∧ s.best x ≤ 1000000 := Sh.best_bd hok x
  have Hbt := Lib.hid (fun i => bestTo_bd hok x i)
  have Hst := Lib.hid (show startV s x = if x.set = s.whole then 0 else 1000000 from rfl)
  have Hih := Lib.hid ih
  have Hchc := Lib.hid (fun y (hy : y ∈ s.fol x) => show 0 ≤ y.cost ∧ y.cost ≤ 1960 from by
    obtain ⟨c, -, -, rfl⟩ := Sh.fol_mem hy
    exact hok.chC x.last c)
  have Hbb := Lib.hid (fun y => show 0 ≤ s.best y ∧ s.best y ≤ 1000000 from Sh.best_bd hok y)
  clear ih hok h0 hx
  have hb0 := ext_alloc W (.cells (stC x).toArray 65)
  have hX := Blk.new W 65 (stC x)
  have hof0 := hof.ext hb0
  have hmap0 := hmap.ext hb0
  obtain ⟨D, hown, hgood⟩ := hmap0
  have hgx := hgood x kl hkey
  have Hgood := Lib.hid hgood
  have Hkey := Lib.hid hkey
  clear hof hmap hgood
  unfold St.val at hkey ⊢
  unfold stC at *
  generalize hbx : s.best x = bx at *
  go_enter Tryz.func74, Tryz.ntmps74
  go_upto_region 1 with fail
  change Blk (W.alloc (.cells #[.int .u16 x.set, .int .i64 x.last, .int .i64 x.sec] 65)) _ _ _ at hX
  generalize W.alloc (.cells #[.int .u16 x.set, .int .i64 x.last, .int .i64 x.sec] 65) = W0 at *
  have f0 : W0.cell? ⟨F, 0, none⟩ = _ := hof0.f.cell (i := 0) rfl
  have x0 : W0.cell? ⟨W.heap.size, 0, none⟩ = _ := hX.cell (i := 0) rfl
  have x1 : W0.cell? ⟨W.heap.size, 1, none⟩ = _ := hX.cell (i := 1) rfl
  have x2 : W0.cell? ⟨W.heap.size, 2, none⟩ = _ := hX.cell (i := 2) rfl
  go_upto_region 2 with (at_lookup; refine wpList_lookup_own_ok_int _ rfl _ _ 86 rfl 65 3 .i64 law90 Tryz.underlying86 Tryz.underlying3 (zero3 _) B n D rfl hown _ kl rfl hkey ?_; intro c hat hwc)
  cases hh : Maps.has D kl
  · clear hgx hat hwc f0
    go_upto_region 5 with fail
    refine Dr.wp_region_plan 5 [] (.q [0, 1, 2] (.e1 3 (.q [4] .done))) (by kernel_rfl) (by kernel_rfl) ?_
    have hof1 := hof0.ext (ext_drew W0)
    have hX1 := hX.ext (ext_drew W0)
    have hown1 := hown.drew
    have hb1 := hb0.drew
    clear hof0 hX hown hb0 x0 x1 x2
    generalize World.drew _ = W1 at *
    have q0 := Dr.cell0 (hof1.sb.cell (i := 0) rfl)
    have q1 := Dr.cell0 (hof1.sb.cell (i := 1) rfl)
    have q2 := Dr.cell0 (hof1.sb.cell (i := 2) rfl)
    have q3 := Dr.cell0 (hof1.sb.cell (i := 3) rfl)
    have q4 := Dr.cell0 (hof1.sb.cell (i := 4) rfl)
    have q5 := Dr.cell0 (hof1.sb.cell (i := 5) rfl)
    have q6 := Dr.cell0 (hof1.sb.cell (i := 6) rfl)
    have r0 := Dr.cell0 (hX1.cell (i := 0) rfl)
    refine Dr.plan_q (l := [_, _, _]) rfl (fun K hK => ?_)
    iterate 3 (go_big_quiet_step (fail))
    refine wpQuiet_nil (hK _ ?_); clear hK K
    clear q0 q1 q2 q3 q4 q5 q6 r0
    have CC := Lib.hid (CW.out W1)
    unfold shV at CC
    refine Dr.plan_e rfl (by rfl) (fun K hK => ?_)
    go_wp2_with fail
    refine CC.out.mono ?_; rintro e W2 ⟨rfl, hx2⟩
    refine hK _ _ (.of hx2) ?_; clear hK K CC
    have hof2 := hof1.ext hx2
    have hX2 := hX1.ext hx2
    have hown2 := hown1.kept (grown_of_ext hx2 none) (by simp)
    have hb2 := hb1.trans (hx2.mono hb1.size)
    clear hof1 hX1 hown1 hb1 hx2
    refine Dr.plan_q (l := [_]) rfl (fun K hK => ?_)
    iterate 1 (go_big_quiet_step (fail))
    refine wpQuiet_nil (hK _ ?_); clear hK K
    refine Dr.plan_end rfl ?_
    go_upto_if 24 with fail
    go_cut [9] (fun v V => v = .int .i64 (startV s x) ∧ V = W2)
    case first =>
      by_cases he : x.set = s.whole
      · have he' : ((x.set : Int) == s.whole) = true := by simp; omega
        have hv : startV s x = 0 := by rw [Hst.out, if_pos he]
        have Hv := Lib.hid hv
        clear hv
        go_wp2
        go_meet
        case rel => exact ⟨by rw [Hv.out], rfl⟩
      · have he' : ((x.set : Int) == s.whole) = false := by simp; omega
        have hv : startV s x = 1000000 := by rw [Hst.out, if_neg he]
        have Hv := Lib.hid hv
        clear hv
        go_wp2
        go_meet
        case rel => exact ⟨by rw [Hv.out], rfl⟩
    case rest =>
      obtain ⟨rfl, rfl⟩ := hcut
      have g0 : wc.cell? ⟨G, 0, none⟩ = _ := hof2.g.cell (i := 0) rfl
      have x0 : wc.cell? ⟨W.heap.size, 0, none⟩ = _ := hX2.cell (i := 0) rfl
      have x1 : wc.cell? ⟨W.heap.size, 1, none⟩ = _ := hX2.cell (i := 1) rfl
      have x2 : wc.cell? ⟨W.heap.size, 2, none⟩ = _ := hX2.cell (i := 2) rfl
      have CC := Lib.hid (CF.out wc hof2.bl)
      unfold shV St.val at CC
      unfold shV at g0
      go_wp2_with fail
      refine CC.out.mono ?_; rintro e W3 ⟨⟨v, rfl, hv⟩, hx3⟩
      obtain ⟨A, cA, rfl, -, -, hcel⟩ := hv.cells nx_len
      have hge := hv.block_ge rfl
      have hof3 := hof2.ext hx3
      have hX3 := hX2.ext hx3
      have hown3 := hown2.kept (grown_of_ext hx3 none) (by simp)
      have hb3 := hb2.trans (hx3.mono hb2.size)
      have hBlt := hown2.lt
      have hXlt := hX2.lt
      have hXB : B ≠ W.heap.size := by
        intro e
        obtain ⟨es, ck, h1, -⟩ := hown2
        rw [e] at h1
        unfold Blk at hX2
        rw [h1] at hX2
        cases hX2
      have hAB : ∀ k, A.map (·.block) = some k → k ≠ B := fun k hk e => by have := (hge k hk).1; omega
      have hfl := fol_len s x
      clear CC g0 x0 x1 x2 hof2 hX2 hown2 hb2 hx3 hv hge CF CW Hst
      generalize hLL : s.fol x = L at *
      have hL8 : L.length ≤ 8 := by omega
      have Hlen := Lib.hid (show ∀ i (h : i < L.length), bestTo s x (i + 1) = min (bestTo s x i) (L[i].cost + s.best L[i].st) from fun i h => by subst hLL; exact bestTo_succ h)
      have Hend := Lib.hid (show bestTo s x L.length = bx from by subst hLL; rw [bestTo_end, hbx])
      have hof3' : Below W.heap.size W W3 ∧ W.heap.size < W3.heap.size ∧ B < W3.heap.size := ⟨hb3, hX3.lt, by have := hown3.lt; omega⟩
      have hUn := hn
      have Hbst := Lib.hid (show bestTo s x 0 = startV s x from rfl)
      have HX3 := Lib.hid (show MapG s W3 B n from ⟨D, hown3, Hgood.out⟩)
      have hb30 : Dr.Bel [B] W3 W3 := Dr.Bel.refl _ _
      have HLL := Lib.hid hLL
      clear hfl hown3 Hgood hLL
      rw [← Hbst.out]
      have Hn := Lib.hid hUn
      clear hn hUn hBlt hXlt
      generalize bestTo s x = bt at *
      go_wp2
      go_loopw [9, 29] (fun a t wr => ∃ i : Nat, a = .int .i64 (bt i) ∧ t = .int .i64 i ∧ i ≤ L.length ∧ Dr.Bel [B] W3 wr ∧ MapG s wr B (n + i * U)) (fun _ t _ => L.length - (intOf t).toNat)
      case atStart => exact ⟨0, rfl, rfl, by omega, hb30, by rw [Nat.zero_mul]; exact HX3.out⟩
      case round =>
        obtain ⟨i, rfl, rfl, hi, hbr, hmr⟩ := hrel
        have hofr := hof3.bel hbr
        have hXr := hbr.blk hX3 (by simp; omega)
        have hcr := Dr.cells_bel hcel hbr (fun k hk => by simpa using hAB k hk)
        by_cases hlt : i < L.length
        · obtain ⟨b, o, rfl, hbl, c0, c1, c2, c3, c4⟩ := hcr.at5 hlt rfl
          have hy := List.getElem_mem hlt
          have hcy := Hchc.out _ hy
          have hby := Hbb.out L[i].st
          have hbi := Hbt.out i
          have Hnx := Lib.hid (Hlen.out i hlt)
          have HI := Lib.hid (Hih.out _ hy)
          generalize L[i] = y at *
          have hlt' : (i : Int) < (L.length : Int) := by omega
          have hi0 : (0 : Int) ≤ i := by omega
          have hmul : (i + 1) * U ≤ L.length * U := Nat.mul_le_mul_right _ hlt
          have hmul2 : (i + 1) * U = i * U + U := by rw [Nat.add_mul, Nat.one_mul]
          clear hy hcr
          go_upto_region 10 with fail
          have hnew := Blk.new wr 94 (Nx.enc y)
          have hx4 := ext_alloc wr (.cells (Nx.enc y).toArray 94)
          have hof4 := hofr.ext hx4
          have hm4 := hmr.ext hx4
          have hb4 := hbr.trans (Dr.Bel.of hx4)
          have hNB : B ≠ wr.heap.size := by have := hmr.lt; omega
          clear hofr hmr hbr hXr hx4 c0 c1 c2 c3 c4
          change Blk (wr.alloc (.cells #[.int .i64 y.act, .int .i64 y.cost, .int .u16 y.st.set, .int .i64 y.st.last, .int .i64 y.st.sec] 94)) _ _ _ at hnew
          change OfM w0 s p F S G O B (wr.alloc (.cells #[.int .i64 y.act, .int .i64 y.cost, .int .u16 y.st.set, .int .i64 y.st.last, .int .i64 y.st.sec] 94)) at hof4
          change MapG s (wr.alloc (.cells #[.int .i64 y.act, .int .i64 y.cost, .int .u16 y.st.set, .int .i64 y.st.last, .int .i64 y.st.sec] 94)) _ _ at hm4
          change Dr.Bel [B] W3 (wr.alloc (.cells #[.int .i64 y.act, .int .i64 y.cost, .int .u16 y.st.set, .int .i64 y.st.last, .int .i64 y.st.sec] 94)) at hb4
          generalize wr.alloc (.cells #[.int .i64 y.act, .int .i64 y.cost, .int .u16 y.st.set, .int .i64 y.st.last, .int .i64 y.st.sec] 94) = V0 at *
          generalize wr.heap.size = N at *
          refine Dr.wp_region_plan 10 [B] (.q [0, 1, 2, 3, 4, 5] (.e1 6 (.q [7, 8, 9] .done))) (by kernel_rfl) (by kernel_rfl) ?_
          have hof5 := hof4.ext (ext_drew V0)
          have hm5 := hm4.ext (ext_drew V0)
          have hb5 := hb4.trans (Dr.Bel.of (ext_drew V0))
          have hnew5 := hnew.ext (ext_drew V0)
          clear hof4 hm4 hb4 hnew
          generalize World.drew _ = V at *
          obtain ⟨n1, n2, n3, n4⟩ := hof5.ne
          have q0 := Dr.cls_cell (M := [B]) (hof5.o.cell (i := 0) rfl) (by simp; omega)
          have q1 := Dr.cls_cell (M := [B]) (hnew5.cell (i := 1) rfl) (by simp; omega)
          have q2 := Dr.cls_cell (M := [B]) (hnew5.cell (i := 2) rfl) (by simp; omega)
          have q3 := Dr.cls_cell (M := [B]) (hnew5.cell (i := 3) rfl) (by simp; omega)
          have q4 := Dr.cls_cell (M := [B]) (hnew5.cell (i := 4) rfl) (by simp; omega)
          refine Dr.plan_q (l := [_, _, _, _, _, _]) rfl (fun K hK => ?_)
          iterate 6 (go_big_quiet_step (fail))
          refine wpQuiet_nil (hK _ ?_); clear hK K
          clear q0 q1 q2 q3 q4 hnew5
          have CI := Lib.hid (HI.out (n + i * U) V hof5 hm5 (by have := Hn.out; omega))
          unfold St.val at CI
          clear hof5 hm5
          refine Dr.plan_e rfl (by rfl) (fun K hK => ?_)
          go_wp2_with fail
          refine CI.out.mono ?_; rintro e V2 ⟨rfl, hb6, hm6⟩
          refine hK _ _ hb6 ?_; clear hK K CI
          have hb7 := hb5.trans hb6
          rw [show n + i * U + U = n + (i + 1) * U by omega] at hm6
          have Hm6 := Lib.hid hm6
          clear hb5 hb6 hm6 n1 n2 n3 n4
          generalize s.best y.st = by_ at *
          refine Dr.plan_q (l := [_, _, _]) rfl (fun K hK => ?_)
          iterate 3 (go_big_quiet_step (fail))
          refine wpQuiet_nil (hK _ ?_); clear hK K
          refine Dr.plan_end rfl ?_
          go_wp2
          go_roundw
          case rel => exact ⟨i + 1, by rw [Hnx.out], by go_num, by omega, hb7, Hm6.out⟩
          case measure => simp [intOf]; omega
        · obtain rfl : i = L.length := by omega
          obtain ⟨D2, hown4, hgood4⟩ := hmr
          have hgp := good_put hown4.isMap Hkey.out hgood4
          rw [hbx, ← Hend.out] at hgp
          have Hgp := Lib.hid hgp
          have hwf : (Lit.int .i64 (bt L.length)).wf = true := WalkArith.wf_i64 (by have := Hbt.out L.length; omega)
          have f0 : wr.cell? ⟨F, 0, none⟩ = _ := hofr.f.cell (i := 0) rfl
          have x0 : wr.cell? ⟨W.heap.size, 0, none⟩ = _ := hXr.cell (i := 0) rfl
          have x1 : wr.cell? ⟨W.heap.size, 1, none⟩ = _ := hXr.cell (i := 1) rfl
          have x2 : wr.cell? ⟨W.heap.size, 2, none⟩ = _ := hXr.cell (i := 2) rfl
          clear hgp hgood4
          go_wp2_with (at_mapUpdate; refine wpList_mapUpdate_own _ rfl _ _ _ 86 rfl 65 3 law90 Tryz.underlying86 _ B (n + L.length * U) D2 rfl hown4 (by have := Hn.out; unfold maxLen; omega) _ _ kl rfl rfl hkey _ [] (plainElem_int Tryz.underlying3 hwf) ?_; intro w1 hown5 hgrow5)
          go_ret
          have hb9 : Dr.Bel [B] wr w1 := ⟨hgrow5.os, hgrow5.tape, hgrow5.output, hgrow5.size, fun k hk hm => hgrow5.block k hk (fun e => hm (by cases e; simp))⟩
          exact ⟨ret_congr (int_congr Hend.out), ((Dr.Bel.of hb3).trans hbr).trans hb9, by rw [HLL.out]; exact ⟨_, hown5, Hgp.out⟩⟩
  · have hcb : c = bx := by
      have := hgx hh (.lit (.int .i64 0))
      rw [hat] at this
      simpa using this
    subst hcb
    go_wp2
    go_ret
    exact ⟨rfl, .of hb0, D, hown.mono (by omega), Hgood.out⟩
theorem of_any (s : Sh) (p : ShP) (w0 : World) (F S G O B : Nat) (h0 : ShM w0 s p) (hok : s.Ok) : ∀ (k : Nat) (x : St), StOk s x → s.left x = k → OfC w0 s p F S G O B x (updN k) := by
  intro k
  induction k using Nat.strongRecOn with
  | _ k ih =>
    intro x hx hk n W hof hmap hn
    have hlen : (s.fol x).length ≤ 8 := Nat.le_trans (fol_len s x) hok.n8
    cases k with
    | zero =>
      have h00 : s.fol x = [] := by
        cases hf : s.fol x with
        | nil => rfl
        | cons y r =>
          have := Sh.fol_left (s := s) (x := x) (y := y) (by rw [hf]; simp)
          omega
      have h := of_step s p w0 F S G O B h0 hok x hx 0 (fun y hy => by rw [h00] at hy; simp at hy) n W hof hmap (by have : updN 0 = 1 := rfl; omega)
      refine h.mono ?_
      rintro e W' ⟨h1, h2, h3⟩
      exact ⟨h1, h2, h3.mono (by have : updN 0 = 1 := rfl; omega)⟩
    | succ j =>
      have hm : (s.fol x).length * updN j ≤ 8 * updN j := Nat.mul_le_mul_right _ hlen
      have hu : updN (j + 1) = 1 + 8 * updN j := rfl
      have h := of_step s p w0 F S G O B h0 hok x hx (updN j) (fun y hy => ih j (by omega) y.st (hx.fol hy) (by have := Sh.fol_left hy; omega)) n W hof hmap (by omega)
      refine h.mono ?_
      rintro e W' ⟨h1, h2, h3⟩
      exact ⟨h1, h2, h3.mono (by omega)⟩
end Go.Proofs.YtcnidhcdkbfpcaaGreat

/- Walks: the acts that may come first; the search is made. (Printed by mk_prgy.py.) -/
namespace Go.Pg
theorem toI_snoc (l : List Nat) (c : Nat) : toI (l ++ [c]) = toI l ++ [(c : Int)] := by simp [toI]
end Go.Pg
namespace Go.Proofs.YtcnidhcdkbfpcaaGreat
open Go.RowKit Go.Bs Go.Pg Go.Pl Go.Sort
set_option maxRecDepth 100000 in
set_option maxHeartbeats 2000000 in
theorem firsts_any (s : Sh) (p : ShP) (w : World) (h : ShM w s p) (hok : s.Ok) :
    Calls Tryz.prog 48 #[shV s p] w fun e w' => (∃ v, e = .returned v ∧ OwnL w' w.heap.size 3 1 encI v (toI s.firsts)) ∧ Below w.heap.size w w' := by
  have hb0 := ext_alloc w (.cells (shC s p).toArray 37)
  have hS := Blk.new w 37 (shC s p)
  have hs0 : (w.alloc (.cells (shC s p).toArray 37)).heap.size = w.heap.size + 1 := by simp
  have hn8 := hok.n8
  have CP := Lib.hid (fun i (hi : i < s.acts.length) W (hW : Below w.heap.size w W) => place_any s p i (-1) (-1) 0 W (h.ext hW) hi)
  have CW := Lib.hid (fun (y : AcV) i (hi : i < s.acts.length) (hy : y.a = s.act i) W (hW : Below w.heap.size w W) => why_any s p y i (-1) (-1) 0 W (h.ext hW) hok hi hy (by omega) (.inl ⟨rfl, rfl⟩))
  have Hf := Lib.hid (show ∀ c, s.first c = decide (s.why c (-1) (-1) 0 = 0) from fun _ => rfl)
  have Hhit := Lib.hid (fun c (h : s.first c = true) => show toI (firTo s (c + 1)) = toI (firTo s c) ++ [(c : Int)] by rw [firTo_hit h, toI_snoc])
  have Hmiss := Lib.hid (fun c (h : s.first c = false) => show toI (firTo s (c + 1)) = toI (firTo s c) by rw [firTo_miss h])
  have Hlen := Lib.hid (fun c => show (toI (firTo s c)).length ≤ c by rw [toI_len]; exact firTo_len s c)
  have H00 := Lib.hid (show toI (firTo s 0) = [] from rfl)
  have Hend := Lib.hid (show toI (firTo s s.acts.length) = toI s.firsts from rfl)
  generalize hFT : (fun c => toI (firTo s c)) = FT at *
  have e0 : ∀ c, toI (firTo s c) = FT c := fun c => by rw [← hFT]
  simp only [e0] at Hhit Hmiss Hlen H00 Hend
  generalize toI s.firsts = FL at *
  clear h hok hFT e0
  unfold shV at *
  unfold shC at *
  go_enter Tryz.func48, Tryz.ntmps48
  go_upto_region 1 with fail
  generalize w.alloc (.cells #[.slice p.A s.acts.length p.cA, .slice p.R s.rest.length p.cR, .slice p.I s.ins.length p.cI, .slice p.O s.outs.length p.cO, .int .i64 s.cover, .int .i64 s.dull, .slice p.B s.before.length p.cB] 37) = W0 at *
  have x0 : W0.cell? ⟨w.heap.size, 0, none⟩ = _ := hS.cell (i := 0) rfl
  go_wp2
  clear x0
  have Hs0 := Lib.hid hs0
  clear hs0
  go_loopw [2, 7] (fun v t wr => ∃ c : Nat, t = .int .i64 c ∧ c ≤ s.acts.length ∧ OwnL wr (w.heap.size + 1) 3 1 encI v (FT c) ∧ Below w.heap.size w wr ∧ Blk wr w.heap.size 37 [.slice p.A s.acts.length p.cA, .slice p.R s.rest.length p.cR, .slice p.I s.ins.length p.cI, .slice p.O s.outs.length p.cO, .int .i64 s.cover, .int .i64 s.dull, .slice p.B s.before.length p.cB] ∧ w.heap.size + 1 ≤ wr.heap.size)
    (fun _ t _ => s.acts.length - (intOf t).toNat)
  case atStart => exact ⟨0, rfl, by omega, by rw [H00.out]; exact OwnL.nil, hb0, hS, by have := Hs0.out; omega⟩
  case round =>
    obtain ⟨c, rfl, hcn, hown, hbr, hSr, hzr⟩ := hrel
    clear hb0 hS
    by_cases hlt : c < s.acts.length
    · have hlt' : (c : Int) < (s.acts.length : Int) := by omega
      have Hm := Lib.hid (Hf.out c)
      go_upto_region 4 with fail
      refine Dr.wp_region_plan 6 [] (.q [0, 1, 2] (.e1 3 (.e1 4 (.q [5] .done)))) (by kernel_rfl) (by kernel_rfl) ?_
      have hb1 := hbr.drew
      have hS1 := hSr.ext (ext_drew wr)
      have ho1 := hown.drew
      have hz1 : w.heap.size + 1 ≤ wr.drew.heap.size := hzr
      clear hbr hSr hown hzr
      generalize World.drew _ = W at *
      have q0 := Dr.cell0 (hS1.cell (i := 0) rfl)
      have q1 := Dr.cell0 (hS1.cell (i := 1) rfl)
      have q2 := Dr.cell0 (hS1.cell (i := 2) rfl)
      have q3 := Dr.cell0 (hS1.cell (i := 3) rfl)
      have q4 := Dr.cell0 (hS1.cell (i := 4) rfl)
      have q5 := Dr.cell0 (hS1.cell (i := 5) rfl)
      have q6 := Dr.cell0 (hS1.cell (i := 6) rfl)
      refine Dr.plan_q (l := [_, _, _]) rfl (fun K hK => ?_)
      iterate 3 (go_big_quiet_step (fail))
      refine wpQuiet_nil (hK _ ?_); clear hK K
      clear q0 q1 q2 q3 q4 q5 q6
      refine Dr.plan_e rfl (by rfl) (fun K hK => ?_)
      go_wp2_with fail
      refine (CP.out c hlt W hb1).mono ?_; rintro e W1 ⟨⟨y, -, hy, rfl⟩, hx1⟩
      refine hK _ _ (.of hx1) ?_; clear hK K
      have hb2 := hb1.trans (hx1.mono hb1.size)
      have hS2 := hS1.ext hx1
      have ho2 := ho1.ext hx1
      have hz2 := Nat.le_trans hz1 hx1.size
      clear hb1 hS1 ho1 hx1 hz1
      refine Dr.plan_e rfl (by rfl) (fun K hK => ?_)
      go_wp2_with fail
      refine (CW.out y c hlt hy W1 hb2).mono ?_; rintro e W2 ⟨rfl, hx2⟩
      refine hK _ _ (.of hx2) ?_; clear hK K
      have hb3 := hb2.trans (hx2.mono hb2.size)
      have hS3 := hS2.ext hx2
      have ho3 := ho2.ext hx2
      have hz3 := Nat.le_trans hz2 hx2.size
      clear hb2 hS2 ho2 hx2 hy hz2
      refine Dr.plan_q (l := [_]) rfl (fun K hK => ?_)
      iterate 1 (go_big_quiet_step (fail))
      refine wpQuiet_nil (hK _ ?_); clear hK K
      refine Dr.plan_end rfl ?_
      by_cases hw : s.why c (-1) (-1) 0 = 0
      · rw [hw] at Hm ⊢
        have Hft := Lib.hid (Hhit.out c (Hm.out.trans (by simp)))
        have hln := Hlen.out c
        have hnew := Blk.new W2 3 [.int .i64 (c : Int)]
        have hba := ext_alloc W2 (.cells #[.int .i64 (c : Int)] 3)
        clear hw Hm
        go_upto_region 6 with (at_builtin; refine app1 encI 23 3 1 8 et23 (by decide) (by decide) encI_len encI_one rfl _ _ rfl (w.heap.size + 1) _ (FT c) rfl (ho3.alloc _) W2.heap.size rfl (c : Int) (encI_cell (hnew.cell rfl)) (by omega) (by simp; omega) ?_; intro g' cap' V2 hown' hb7 hgr7 hat7; have hb8 : RowKit.Below (w.heap.size + 1) W2 V2 := (hba.mono (by omega)).trans hb7; have hown8 : OwnL V2 (w.heap.size + 1) 3 1 encI (.slice (some ⟨g', 0, none⟩) ((FT c).length + 1) cap') (FT (c + 1)) := (by rw [Hft.out]; exact hown'); have hb9 := hb3.trans (hb8.mono (by omega)); have hS9 : Blk V2 w.heap.size 37 [.slice p.A s.acts.length p.cA, .slice p.R s.rest.length p.cR, .slice p.I s.ins.length p.cI, .slice p.O s.outs.length p.cO, .int .i64 s.cover, .int .i64 s.dull, .slice p.B s.before.length p.cB] := (hb8.block w.heap.size (by omega)).trans hS3; have hz9 : w.heap.size + 1 ≤ V2.heap.size := Nat.le_trans hz3 hb8.size; clear hown' hb7 hgr7 hat7 hb8)
        clear hnew hba hb3 hS3 ho3 hz3
        go_wp2
        go_roundw
        case rel => exact ⟨c + 1, by go_num, by omega, hown8, hb9, hS9, hz9⟩
        case measure => simp [intOf]; omega
      · rw [show decide (s.why c (-1) (-1) 0 = 0) = false by simpa using hw] at Hm
        have Hft := Lib.hid (Hmiss.out c Hm.out)
        have hw3 := why_le s c (-1) (-1) 0
        generalize s.why c (-1) (-1) 0 = wv at *
        have hw0 : ((wv : Int) == 0) = false := by simp; omega
        clear hw Hm
        go_wp2
        go_roundw
        case rel => exact ⟨c + 1, by go_num, by omega, by rw [Hft.out]; exact ho3, hb3, hS3, hz3⟩
        case measure => simp [intOf]; omega
    · obtain rfl : c = s.acts.length := by omega
      go_wp2
      go_ret
      exact ⟨⟨_, rfl, by rw [← Hend.out]; exact OwnL.up hown (by omega)⟩, hbr⟩
set_option maxRecDepth 100000 in
set_option maxHeartbeats 2000000 in
theorem best_any (s : Sh) (p : ShP) (w : World) :
    Calls Tryz.prog 47 #[shV s p] w fun e w' => ∃ F S G O B, e = .returned (.tuple #[.map (some B), .func (.func 74) #[] #[.pointer (some ⟨F, 0, none⟩), .pointer (some ⟨S, 0, none⟩), .pointer (some ⟨G, 0, none⟩), .pointer (some ⟨O, 0, none⟩)]]) ∧ OfM w s p F S G O B w' ∧ MapG s w' B 0 := by
  have hmm := @run_makeMap Tryz.prog
  unfold shV
  go_enter Tryz.func47, Tryz.ntmps47
  go_upto_region 5 with fail
  have hOf : OfM w s p (w.heap.size + 1 + 1) w.heap.size (w.heap.size + 1 + 1 + 1 + 1) (w.heap.size + 1 + 1 + 1) (w.heap.size + 1) (((((w.alloc (.cells #[.slice p.A s.acts.length p.cA, .slice p.R s.rest.length p.cR, .slice p.I s.ins.length p.cI, .slice p.O s.outs.length p.cO, .int .i64 s.cover, .int .i64 s.dull, .slice p.B s.before.length p.cB] 37)).alloc (.map #[] 0)).alloc (.cells #[.map (some (w.heap.size + 1))] 86)).alloc (.cells #[.func (.func 74) #[] #[.pointer (some ⟨w.heap.size + 1 + 1, 0, none⟩), .pointer (some ⟨w.heap.size, 0, none⟩), .pointer (some ⟨w.heap.size + 1 + 1 + 1 + 1, 0, none⟩), .pointer (some ⟨w.heap.size + 1 + 1 + 1, 0, none⟩)]] 60)).alloc (.cells #[.func (.func 49) #[.agg #[.slice p.A s.acts.length p.cA, .slice p.R s.rest.length p.cR, .slice p.I s.ins.length p.cI, .slice p.O s.outs.length p.cO, .int .i64 s.cover, .int .i64 s.dull, .slice p.B s.before.length p.cB]] #[]] 91)) := by
    have s1 : (w.alloc (.cells #[.slice p.A s.acts.length p.cA, .slice p.R s.rest.length p.cR, .slice p.I s.ins.length p.cI, .slice p.O s.outs.length p.cO, .int .i64 s.cover, .int .i64 s.dull, .slice p.B s.before.length p.cB] 37)).heap.size = w.heap.size + 1 := by simp
    have s2 : ((w.alloc (.cells #[.slice p.A s.acts.length p.cA, .slice p.R s.rest.length p.cR, .slice p.I s.ins.length p.cI, .slice p.O s.outs.length p.cO, .int .i64 s.cover, .int .i64 s.dull, .slice p.B s.before.length p.cB] 37)).alloc (.map #[] 0)).heap.size = w.heap.size + 1 + 1 := by simp
    have s3 : (((w.alloc (.cells #[.slice p.A s.acts.length p.cA, .slice p.R s.rest.length p.cR, .slice p.I s.ins.length p.cI, .slice p.O s.outs.length p.cO, .int .i64 s.cover, .int .i64 s.dull, .slice p.B s.before.length p.cB] 37)).alloc (.map #[] 0)).alloc (.cells #[.map (some (w.heap.size + 1))] 86)).heap.size = w.heap.size + 1 + 1 + 1 := by simp
    have s4 : ((((w.alloc (.cells #[.slice p.A s.acts.length p.cA, .slice p.R s.rest.length p.cR, .slice p.I s.ins.length p.cI, .slice p.O s.outs.length p.cO, .int .i64 s.cover, .int .i64 s.dull, .slice p.B s.before.length p.cB] 37)).alloc (.map #[] 0)).alloc (.cells #[.map (some (w.heap.size + 1))] 86)).alloc (.cells #[.func (.func 74) #[] #[.pointer (some ⟨w.heap.size + 1 + 1, 0, none⟩), .pointer (some ⟨w.heap.size, 0, none⟩), .pointer (some ⟨w.heap.size + 1 + 1 + 1 + 1, 0, none⟩), .pointer (some ⟨w.heap.size + 1 + 1 + 1, 0, none⟩)]] 60)).heap.size = w.heap.size + 1 + 1 + 1 + 1 := by simp
    refine ⟨((((((Below.refl _ _).alloc (Nat.le_refl _) _).alloc (by simp) _).alloc (by simp; omega) _).alloc (by simp; omega) _).alloc (by simp; omega) _), ?_, ?_, ?_, ?_, by omega, by omega, by omega, by omega, by omega⟩
    · have h := (((Blk.new ((w.alloc (.cells #[.slice p.A s.acts.length p.cA, .slice p.R s.rest.length p.cR, .slice p.I s.ins.length p.cI, .slice p.O s.outs.length p.cO, .int .i64 s.cover, .int .i64 s.dull, .slice p.B s.before.length p.cB] 37)).alloc (.map #[] 0)) 86 [.map (some (w.heap.size + 1))]).alloc (.cells #[.func (.func 74) #[] #[.pointer (some ⟨w.heap.size + 1 + 1, 0, none⟩), .pointer (some ⟨w.heap.size, 0, none⟩), .pointer (some ⟨w.heap.size + 1 + 1 + 1 + 1, 0, none⟩), .pointer (some ⟨w.heap.size + 1 + 1 + 1, 0, none⟩)]] 60)).alloc (.cells #[.func (.func 49) #[.agg #[.slice p.A s.acts.length p.cA, .slice p.R s.rest.length p.cR, .slice p.I s.ins.length p.cI, .slice p.O s.outs.length p.cO, .int .i64 s.cover, .int .i64 s.dull, .slice p.B s.before.length p.cB]] #[]] 91))
      rw [s2] at h
      exact h
    · exact ((((Blk.new w 37 (shC s p)).alloc (.map #[] 0)).alloc (.cells #[.map (some (w.heap.size + 1))] 86)).alloc (.cells #[.func (.func 74) #[] #[.pointer (some ⟨w.heap.size + 1 + 1, 0, none⟩), .pointer (some ⟨w.heap.size, 0, none⟩), .pointer (some ⟨w.heap.size + 1 + 1 + 1 + 1, 0, none⟩), .pointer (some ⟨w.heap.size + 1 + 1 + 1, 0, none⟩)]] 60)).alloc (.cells #[.func (.func 49) #[.agg #[.slice p.A s.acts.length p.cA, .slice p.R s.rest.length p.cR, .slice p.I s.ins.length p.cI, .slice p.O s.outs.length p.cO, .int .i64 s.cover, .int .i64 s.dull, .slice p.B s.before.length p.cB]] #[]] 91)
    · have h := Blk.new ((((w.alloc (.cells #[.slice p.A s.acts.length p.cA, .slice p.R s.rest.length p.cR, .slice p.I s.ins.length p.cI, .slice p.O s.outs.length p.cO, .int .i64 s.cover, .int .i64 s.dull, .slice p.B s.before.length p.cB] 37)).alloc (.map #[] 0)).alloc (.cells #[.map (some (w.heap.size + 1))] 86)).alloc (.cells #[.func (.func 74) #[] #[.pointer (some ⟨w.heap.size + 1 + 1, 0, none⟩), .pointer (some ⟨w.heap.size, 0, none⟩), .pointer (some ⟨w.heap.size + 1 + 1 + 1 + 1, 0, none⟩), .pointer (some ⟨w.heap.size + 1 + 1 + 1, 0, none⟩)]] 60)) 91 [.func (.func 49) #[shV s p] #[]]
      rw [s4] at h
      exact h
    · have h := (Blk.new (((w.alloc (.cells #[.slice p.A s.acts.length p.cA, .slice p.R s.rest.length p.cR, .slice p.I s.ins.length p.cI, .slice p.O s.outs.length p.cO, .int .i64 s.cover, .int .i64 s.dull, .slice p.B s.before.length p.cB] 37)).alloc (.map #[] 0)).alloc (.cells #[.map (some (w.heap.size + 1))] 86)) 60 [.func (.func 74) #[] #[.pointer (some ⟨w.heap.size + 1 + 1, 0, none⟩), .pointer (some ⟨w.heap.size, 0, none⟩), .pointer (some ⟨w.heap.size + 1 + 1 + 1 + 1, 0, none⟩), .pointer (some ⟨w.heap.size + 1 + 1 + 1, 0, none⟩)]]).alloc (.cells #[.func (.func 49) #[.agg #[.slice p.A s.acts.length p.cA, .slice p.R s.rest.length p.cR, .slice p.I s.ins.length p.cI, .slice p.O s.outs.length p.cO, .int .i64 s.cover, .int .i64 s.dull, .slice p.B s.before.length p.cB]] #[]] 91)
      rw [s3] at h
      exact h
  have hMg : MapG s (((((w.alloc (.cells #[.slice p.A s.acts.length p.cA, .slice p.R s.rest.length p.cR, .slice p.I s.ins.length p.cI, .slice p.O s.outs.length p.cO, .int .i64 s.cover, .int .i64 s.dull, .slice p.B s.before.length p.cB] 37)).alloc (.map #[] 0)).alloc (.cells #[.map (some (w.heap.size + 1))] 86)).alloc (.cells #[.func (.func 74) #[] #[.pointer (some ⟨w.heap.size + 1 + 1, 0, none⟩), .pointer (some ⟨w.heap.size, 0, none⟩), .pointer (some ⟨w.heap.size + 1 + 1 + 1 + 1, 0, none⟩), .pointer (some ⟨w.heap.size + 1 + 1 + 1, 0, none⟩)]] 60)).alloc (.cells #[.func (.func 49) #[.agg #[.slice p.A s.acts.length p.cA, .slice p.R s.rest.length p.cR, .slice p.I s.ins.length p.cI, .slice p.O s.outs.length p.cO, .int .i64 s.cover, .int .i64 s.dull, .slice p.B s.before.length p.cB]] #[]] 91)) (w.heap.size + 1) 0 := by
    have h := ((((MapG.made s (w.alloc (.cells #[.slice p.A s.acts.length p.cA, .slice p.R s.rest.length p.cR, .slice p.I s.ins.length p.cI, .slice p.O s.outs.length p.cO, .int .i64 s.cover, .int .i64 s.dull, .slice p.B s.before.length p.cB] 37))).alloc (.cells #[.map (some (w.heap.size + 1))] 86)).alloc (.cells #[.func (.func 74) #[] #[.pointer (some ⟨w.heap.size + 1 + 1, 0, none⟩), .pointer (some ⟨w.heap.size, 0, none⟩), .pointer (some ⟨w.heap.size + 1 + 1 + 1 + 1, 0, none⟩), .pointer (some ⟨w.heap.size + 1 + 1 + 1, 0, none⟩)]] 60)).alloc (.cells #[.func (.func 49) #[.agg #[.slice p.A s.acts.length p.cA, .slice p.R s.rest.length p.cR, .slice p.I s.ins.length p.cI, .slice p.O s.outs.length p.cO, .int .i64 s.cover, .int .i64 s.dull, .slice p.B s.before.length p.cB]] #[]] 91))
    rw [show (w.alloc (.cells #[.slice p.A s.acts.length p.cA, .slice p.R s.rest.length p.cR, .slice p.I s.ins.length p.cI, .slice p.O s.outs.length p.cO, .int .i64 s.cover, .int .i64 s.dull, .slice p.B s.before.length p.cB] 37)).heap.size = w.heap.size + 1 by simp] at h
    exact h
  generalize ((((w.alloc (.cells #[.slice p.A s.acts.length p.cA, .slice p.R s.rest.length p.cR, .slice p.I s.ins.length p.cI, .slice p.O s.outs.length p.cO, .int .i64 s.cover, .int .i64 s.dull, .slice p.B s.before.length p.cB] 37)).alloc (.map #[] 0)).alloc (.cells #[.map (some (w.heap.size + 1))] 86)).alloc (.cells #[.func (.func 74) #[] #[.pointer (some ⟨w.heap.size + 1 + 1, 0, none⟩), .pointer (some ⟨w.heap.size, 0, none⟩), .pointer (some ⟨w.heap.size + 1 + 1 + 1 + 1, 0, none⟩), .pointer (some ⟨w.heap.size + 1 + 1 + 1, 0, none⟩)]] 60)).alloc (.cells #[.func (.func 49) #[.agg #[.slice p.A s.acts.length p.cA, .slice p.R s.rest.length p.cR, .slice p.I s.ins.length p.cI, .slice p.O s.outs.length p.cO, .int .i64 s.cover, .int .i64 s.dull, .slice p.B s.before.length p.cB]] #[]] 91) = V0 at *
  refine Dr.wp_region_plan 4 [] (.q [0, 1, 2, 3] .done) (by kernel_rfl) (by kernel_rfl) ?_
  have hOf1 := hOf.ext (ext_drew V0)
  have hMg1 := hMg.ext (ext_drew V0)
  clear hOf hMg
  generalize World.drew _ = V at *
  have q0 := Dr.cell0 (hOf1.f.cell (i := 0) rfl)
  have q1 := Dr.cell0 (hOf1.o.cell (i := 0) rfl)
  refine Dr.plan_q (l := [_, _, _, _]) rfl (fun K hK => ?_)
  iterate 4 (go_big_quiet_step (fail))
  refine wpQuiet_nil (hK _ ?_); clear hK K
  refine Dr.plan_end rfl ?_
  clear q0 q1
  go_wp2
  refine bodyPost_ret (v := .tuple #[.map (some (w.heap.size + 1)), .func (.func 74) #[] #[.pointer (some ⟨w.heap.size + 1 + 1, 0, none⟩), .pointer (some ⟨w.heap.size, 0, none⟩), .pointer (some ⟨w.heap.size + 1 + 1 + 1 + 1, 0, none⟩), .pointer (some ⟨w.heap.size + 1 + 1 + 1, 0, none⟩)]]) (by simp [results, Tryz.results47, go_sem]) rfl ?_
  exact ⟨_, _, _, _, _, rfl, hOf1, hMg1⟩
end Go.Proofs.YtcnidhcdkbfpcaaGreat

/- The best first act; what the search asks of those that may follow. -/
namespace Go.Pg
open Go.Pl
def scan (f : Nat → Int) (l : List Nat) : Int × Int := l.foldl (fun cf a => if f a < cf.1 then (f a, (a : Int)) else cf) (maxT, -1)
theorem scan_snoc (f : Nat → Int) (l : List Nat) (a : Nat) : scan f (l ++ [a]) = if f a < (scan f l).1 then (f a, (a : Int)) else scan f l := by unfold scan; rw [List.foldl_append]; rfl
theorem scan_min (f : Nat → Int) (l : List Nat) : (scan f l).1 = minL maxT (l.map f) := by
  have : ∀ n, n ≤ l.length → (scan f (l.take n)).1 = minL maxT ((l.take n).map f) := by
    intro n
    induction n with
    | zero => intro _; rfl
    | succ n ih =>
      intro hn
      rw [List.take_succ_eq_append_getElem (by omega), scan_snoc, List.map_append, minL_append, ← ih (by omega)]
      show _ = min (scan f (l.take n)).1 (f l[n])
      split
      · simp only; omega
      · omega
  have h := this l.length (Nat.le_refl _)
  rwa [List.take_length] at h
theorem scan_first (f : Nat → Int) (l : List Nat) : ((scan f l).1 = maxT ∧ (scan f l).2 = -1) ∨ ((scan f l).1 < maxT ∧ ∃ a, l.find? (fun a => decide (f a = (scan f l).1)) = some a ∧ (scan f l).2 = a) := by
  have : ∀ n, n ≤ l.length → ((scan f (l.take n)).1 = maxT ∧ (scan f (l.take n)).2 = -1) ∨ ((scan f (l.take n)).1 < maxT ∧ ∃ a, (l.take n).find? (fun a => decide (f a = (scan f (l.take n)).1)) = some a ∧ (scan f (l.take n)).2 = a) := by
    intro n
    induction n with
    | zero => intro _; exact .inl ⟨rfl, rfl⟩
    | succ n ih =>
      intro hn
      have hmin := scan_min f (l.take n)
      rw [List.take_succ_eq_append_getElem (by omega), scan_snoc]
      have ih := ih (by omega)
      split
      · rename_i hlt
        right
        refine ⟨by rcases ih with h | h
                   · simp only; omega
                   · simp only; omega, l[n], ?_, rfl⟩
        rw [List.find?_append, List.find?_eq_none.2]
        · simp
        · intro x hx
          have h2 : minL maxT ((l.take n).map f) ≤ f x := minL_mem_le (List.mem_map_of_mem hx)
          rw [← hmin] at h2
          simp only [decide_eq_true_eq]
          omega
      · rcases ih with h | ⟨h1, a, h2, h3⟩
        · exact .inl h
        · refine .inr ⟨h1, a, ?_, h3⟩
          rw [List.find?_append, h2]; rfl
  have h := this l.length (Nat.le_refl _)
  rwa [List.take_length] at h
theorem scan_least (s : Sh) : (scan (fun a => s.best (Sh.one a)) s.firsts).1 = s.least := scan_min _ _
/-- what the scan says of the best programme -/
theorem scan_solve (s : Sh) : ((scan (fun a => s.best (Sh.one a)) s.firsts).2 = -1 ∧ s.solve = none) ∨
    ∃ a, a ∈ s.firsts ∧ (scan (fun a => s.best (Sh.one a)) s.firsts).2 = (a : Nat) ∧ s.best (Sh.one a) = s.least ∧ s.least < maxT ∧ s.solve = some (a :: s.greedy (s.acts.length - 1) (Sh.one a)) := by
  have hl := scan_least s
  rcases scan_first (fun a => s.best (Sh.one a)) s.firsts with ⟨h1, h2⟩ | ⟨h1, a, h2, h3⟩
  · left
    refine ⟨h2, ?_⟩
    unfold Sh.solve
    rw [if_neg (by rw [← hl, h1]; omega)]
  · right
    rw [hl] at h1 h2
    refine ⟨a, List.mem_of_find?_eq_some h2, h3, by simpa using List.find?_some h2, h1, ?_⟩
    unfold Sh.solve Sh.head
    rw [if_pos h1, h2]; rfl
/-- how the greedy way goes on -/
theorem greedy_next {s : Sh} {x : St} {k : Nat} (hok : s.Ok) (hx : x.set < 2 ^ s.acts.length) (hk : s.left x = k + 1) (hb : s.best x < maxT) :
    ∃ i, ∃ h : i < (s.fol x).length, Go.Bs.idxF (fun y => decide (y.cost + s.best y.st = s.best x)) (s.fol x) = (i : Int) ∧ s.greedy (k + 1) x = (s.fol x)[i].act :: s.greedy k (s.fol x)[i].st ∧ s.best (s.fol x)[i].st < maxT ∧ s.left (s.fol x)[i].st = k := by
  have hne : x.set ≠ s.whole := fun h => by have := (Sh.whole_iff hx).1 h; unfold Sh.left at hk; omega
  have hm := Sh.best_min (s := s) x
  rw [if_neg hne] at hm
  have hex : ∃ y ∈ s.fol x, decide (y.cost + s.best y.st = s.best x) = true := by
    rcases minL_hit maxT ((s.fol x).map fun y => y.cost + s.best y.st) with h | h
    · omega
    · obtain ⟨y, hy, he⟩ := List.mem_map.1 h
      exact ⟨y, hy, by simp [he, ← hm]⟩
  have hlt : (s.fol x).findIdx (fun y => decide (y.cost + s.best y.st = s.best x)) < (s.fol x).length := List.findIdx_lt_length_of_exists hex
  refine ⟨_, hlt, ?_, ?_, ?_, ?_⟩
  · unfold Go.Bs.idxF
    rw [List.any_eq_true.2 hex]; rfl
  · rw [Sh.greedy_succ]
    have hf : (s.fol x).find? (fun y => decide (y.cost + s.best y.st = s.best x)) = some ((s.fol x)[(s.fol x).findIdx (fun y => decide (y.cost + s.best y.st = s.best x))]) := by
      rw [List.find?_eq_getElem?_findIdx, List.getElem?_eq_getElem hlt]
    rw [hf]
  · have h1 := List.findIdx_getElem (xs := s.fol x) (p := fun y => decide (y.cost + s.best y.st = s.best x)) (w := hlt)
    have h2 := of_decide_eq_true h1
    obtain ⟨c, -, -, e⟩ := Sh.fol_mem (List.getElem_mem hlt)
    have h3 := hok.chC x.last c
    have h4 : (s.fol x)[(s.fol x).findIdx (fun y => decide (y.cost + s.best y.st = s.best x))].cost = s.chC x.last c := by rw [e]; rfl
    omega
  · have := Sh.fol_left (List.getElem_mem hlt)
    omega
end Go.Pg
namespace Go.Proofs.YtcnidhcdkbfpcaaGreat
open Go.RowKit Go.Bs Go.Pg Go.Pl Go.Sort
set_option maxHeartbeats 800000 in
theorem index_st (g : Nat) (lb : Array Value) (p : Nx → Bool) (M : List Nat) (A : Option Addr) (n cap : Nat) (l : List Nx) (w : World) (eg : Enters Tryz.prog g) (hn : l.length = n) (hm : n ≤ 1000000000) (hd : Cells w A 5 Nx.enc l) (hA : ∀ k, A.map (·.block) = some k → k ∉ M)
    (I : Nat → World → Prop) (h0 : I 0 w) (hp : ∀ (i : Nat) (h : i < l.length) (W : World), Dr.Bel M w W → I i W → Calls Tryz.prog g (#[Nx.val l[i]] ++ lb) W fun e W' => e = .returned (.bool (p l[i])) ∧ Dr.Bel M W W' ∧ I (i + 1) W') :
    Calls Tryz.prog 50 #[.slice A n cap, .func (.func g) #[] lb] w fun e w' => e = .returned (.int .i64 (idxF p l)) ∧ Dr.Bel M w w' ∧ ∃ i, i ≤ n ∧ I i w' := by
  have Hn := Lib.hid hn
  clear hn
  generalize hres : idxF p l = res
  have Hres := Lib.hid hres
  clear hres
  unfold Enters at eg
  have H0 := Lib.hid h0
  clear h0
  go_enter Tryz.func50, Tryz.ntmps50
  go_wp2
  go_loopw [5, 8] (fun _ t wr => ∃ (k : Nat), k ≤ n ∧ t = .int .i64 k ∧ Hid (∀ x ∈ l.take k, p x = false) ∧ Dr.Bel M w wr ∧ Hid (I k wr)) (fun _ t _ => n - (intOf t).toNat)
  case atStart => exact ⟨0, by omega, rfl, Lib.hid (by simp), Dr.Bel.refl _ _, Lib.hid H0.out⟩
  case round =>
    obtain ⟨k, hk, rfl, Hk, hb, HS⟩ := hrel
    by_cases hlt : k < n
    · have hk1 : k < l.length := by rw [Hn.out]; exact hlt
      obtain ⟨b, off, rfl, hbl, c0, c1, c2, c3, c4⟩ := (Dr.cells_bel hd hb hA).at5 hk1 rfl
      have hc := hp k hk1 wr hb HS.out
      have hz : (0 : Int) ≤ k := by omega
      cases hq : p l[k]
      · rw [hq] at hc
        have Hq := Lib.hid hq
        have Hc := Lib.hid hc
        clear hc hq hp
        go_wp2_with fail
        refine Hc.out.mono ?_; rintro e w1 ⟨rfl, hb1, hs1⟩
        have HS1 := Lib.hid hs1
        clear hs1
        go_wp2
        go_roundw
        case rel => exact ⟨k + 1, by omega, by go_num, Lib.hid (fun x hx => by
          rw [List.take_succ_eq_append_getElem hk1] at hx
          rcases List.mem_append.1 hx with hx | hx
          · exact Hk.out x hx
          · simp at hx; rw [hx]; exact Hq.out), hb.trans hb1, HS1⟩
        case measure => simp [intOf]; omega
      · rw [hq] at hc
        have Hq := Lib.hid hq
        have Hc := Lib.hid hc
        clear hc hq hp
        go_wp2_with fail
        refine Hc.out.mono ?_; rintro e w1 ⟨rfl, hb1, hs1⟩
        have HS1 := Lib.hid hs1
        clear hs1
        go_wp2
        go_ret
        exact ⟨ret_congr (int_congr (by rw [← Hres.out, idxF_hit hk1 Hq.out Hk.out])), hb.trans hb1, k + 1, by omega, HS1.out⟩
    · go_wp2
      go_ret
      exact ⟨ret_congr (int_congr (by rw [← Hres.out, idxF_miss (fun x hx => Hk.out x (by rw [List.take_of_length_le (by rw [Hn.out]; omega)]; exact hx))])), hb, k, hk, HS.out⟩
theorem ofC_mono {s : Sh} {p : ShP} {w0 : World} {F S G O B : Nat} {x : St} {a b : Nat} (h : OfC w0 s p F S G O B x a) (hab : a ≤ b) : OfC w0 s p F S G O B x b := by
  intro n W hof hmap hn
  refine (h n W hof hmap (Nat.le_trans (Nat.add_le_add_left hab n) hn)).mono ?_
  rintro e W' ⟨h1, h2, h3⟩
  exact ⟨h1, h2, h3.mono (Nat.add_le_add_left hab n)⟩
theorem of_8 (s : Sh) (p : ShP) (w0 : World) (F S G O B : Nat) (h0 : ShM w0 s p) (hok : s.Ok) (x : St) (hx : StOk s x) : OfC w0 s p F S G O B x 100000000 :=
  ofC_mono (of_any s p w0 F S G O B h0 hok _ x hx rfl) (updN_8 (Nat.le_trans (left_le _ _) hok.n8))
set_option maxRecDepth 100000 in
set_option maxHeartbeats 2000000 in
theorem pred_any (s : Sh) (p : ShP) (w0 : World) (F S G O B T X : Nat) (_h0 : ShM w0 s p) (hok : s.Ok) (x : St) (y : Nx) (hx : StOk s x) (hy : y ∈ s.fol x) (n : Nat) (W : World) (hof : OfM w0 s p F S G O B W) (hmap : MapG s W B n) (U : Nat) (hu : ∀ z, StOk s z → OfC w0 s p F S G O B z U) (hn : n + U + U ≤ 1000000000000000000)
    (hT : Blk W T 60 [.func (.func 74) #[] #[.pointer (some ⟨F, 0, none⟩), .pointer (some ⟨S, 0, none⟩), .pointer (some ⟨G, 0, none⟩), .pointer (some ⟨O, 0, none⟩)]]) (hX : Blk W X 65 (stC x)) (hTB : T ≠ B) (hXB : X ≠ B) :
    Calls Tryz.prog 51 #[Nx.val y, .pointer (some ⟨T, 0, none⟩), .pointer (some ⟨X, 0, none⟩)] W fun e W' => e = .returned (.bool (decide (y.cost + s.best y.st = s.best x))) ∧ Dr.Bel [B] W W' ∧ MapG s W' B (n + U + U) := by
  have HY := Lib.hid (hu y.st (hx.fol hy))
  have HX := Lib.hid (hu x hx)
  have b1 : 0 ≤ s.best y.st ∧ s.best y.st ≤ 1000000 := Sh.best_bd hok _
  have b2 : 0 ≤ s.best x ∧ s.best x ≤ 1000000 := Sh.best_bd hok _
  have b3 : 0 ≤ y.cost ∧ y.cost ≤ 1960 := by
    obtain ⟨c, -, -, rfl⟩ := Sh.fol_mem hy
    exact hok.chC x.last c
  clear hok hx hy hu
  have hb0 := ext_alloc W (.cells (Nx.enc y).toArray 94)
  have hY := Blk.new W 94 (Nx.enc y)
  have hof0 := hof.ext hb0
  have hm0 := hmap.ext hb0
  have hT0 := hT.ext hb0
  have hX0 := hX.ext hb0
  have hYB : B ≠ W.heap.size := by have := hmap.lt; omega
  clear hof hmap hT hX
  unfold Nx.val
  unfold stC at *
  go_enter Tryz.func51, Tryz.ntmps51
  go_upto_region 1 with fail
  change Blk (W.alloc (.cells #[.int .i64 y.act, .int .i64 y.cost, .int .u16 y.st.set, .int .i64 y.st.last, .int .i64 y.st.sec] 94)) _ _ _ at hY
  change Below W.heap.size W (W.alloc (.cells #[.int .i64 y.act, .int .i64 y.cost, .int .u16 y.st.set, .int .i64 y.st.last, .int .i64 y.st.sec] 94)) at hb0
  change OfM w0 s p F S G O B (W.alloc (.cells #[.int .i64 y.act, .int .i64 y.cost, .int .u16 y.st.set, .int .i64 y.st.last, .int .i64 y.st.sec] 94)) at hof0
  change MapG s (W.alloc (.cells #[.int .i64 y.act, .int .i64 y.cost, .int .u16 y.st.set, .int .i64 y.st.last, .int .i64 y.st.sec] 94)) _ _ at hm0
  change Blk (W.alloc (.cells #[.int .i64 y.act, .int .i64 y.cost, .int .u16 y.st.set, .int .i64 y.st.last, .int .i64 y.st.sec] 94)) _ _ _ at hT0 hX0
  generalize W.alloc (.cells #[.int .i64 y.act, .int .i64 y.cost, .int .u16 y.st.set, .int .i64 y.st.last, .int .i64 y.st.sec] 94) = W0 at *
  refine Dr.wp_region_plan 12 [B] (.q [0, 1, 2, 3, 4, 7, 8] (.e1 5 (.q [6] (.e1 9 (.q [10, 11] .done))))) (by kernel_rfl) (by kernel_rfl) ?_
  have hof1 := hof0.ext (ext_drew W0)
  have hm1 := hm0.ext (ext_drew W0)
  have hT1 := hT0.ext (ext_drew W0)
  have hX1 := hX0.ext (ext_drew W0)
  have hY1 := hY.ext (ext_drew W0)
  have hb1 := hb0.drew
  clear hof0 hm0 hT0 hX0 hY hb0
  generalize World.drew _ = V at *
  have q0 := Dr.cls_cell (M := [B]) (hT1.cell (i := 0) rfl) (by simp; omega)
  have q1 := Dr.cls_cell (M := [B]) (hY1.cell (i := 1) rfl) (by simp; omega)
  have q2 := Dr.cls_cell (M := [B]) (hY1.cell (i := 2) rfl) (by simp; omega)
  have q3 := Dr.cls_cell (M := [B]) (hY1.cell (i := 3) rfl) (by simp; omega)
  have q4 := Dr.cls_cell (M := [B]) (hY1.cell (i := 4) rfl) (by simp; omega)
  have q5 := Dr.cls_cell (M := [B]) (hX1.cell (i := 0) rfl) (by simp; omega)
  have q6 := Dr.cls_cell (M := [B]) (hX1.cell (i := 1) rfl) (by simp; omega)
  have q7 := Dr.cls_cell (M := [B]) (hX1.cell (i := 2) rfl) (by simp; omega)
  refine Dr.plan_q (l := [_, _, _, _, _, _, _]) rfl (fun K hK => ?_)
  iterate 7 (go_big_quiet_step (fail))
  refine wpQuiet_nil (hK _ ?_); clear hK K
  clear q0 q1 q2 q3 q4 q5 q6 q7 hT1 hX1 hY1
  have CY := Lib.hid (HY.out n V hof1 hm1 (by omega))
  unfold St.val at CY
  refine Dr.plan_e rfl (by rfl) (fun K hK => ?_)
  go_wp2_with fail
  refine CY.out.mono ?_; rintro e V2 ⟨rfl, hx2, hm2⟩
  refine hK _ _ hx2 ?_; clear hK K CY
  have hof2 := hof1.bel hx2
  have hb2 := (Dr.Bel.of hb1).trans hx2
  clear hof1 hm1 hb1 hx2
  refine Dr.plan_q (l := [_]) rfl (fun K hK => ?_)
  iterate 1 (go_big_quiet_step (fail))
  refine wpQuiet_nil (hK _ ?_); clear hK K
  have CX := Lib.hid (HX.out (n + U) V2 hof2 hm2 hn)
  unfold St.val at CX
  refine Dr.plan_e rfl (by rfl) (fun K hK => ?_)
  go_wp2_with fail
  refine CX.out.mono ?_; rintro e V3 ⟨rfl, hx3, hm3⟩
  refine hK _ _ hx3 ?_; clear hK K CX
  have hb3 := hb2.trans hx3
  clear hof2 hm2 hb2 hx3
  refine Dr.plan_q (l := [_, _]) rfl (fun K hK => ?_)
  iterate 2 (go_big_quiet_step (fail))
  refine wpQuiet_nil (hK _ ?_); clear hK K
  refine Dr.plan_end rfl ?_
  generalize hv1 : s.best y.st = v1 at *
  generalize hv2 : s.best x = v2 at *
  have Hv1 := Lib.hid hv1
  have Hv2 := Lib.hid hv2
  clear hv1 hv2
  go_wp2
  go_ret
  exact ⟨ret_congr (bool_congr (by first | rfl | (rw [Bool.eq_iff_iff]; simp [Hv1.out, Hv2.out]))), hb3, hm3⟩
end Go.Proofs.YtcnidhcdkbfpcaaGreat
