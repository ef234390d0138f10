/- Walk: Flows, Blown, Low. -/
import Derived.Test.YtopfhinnamhoiaaAboveA
import Derived.Test.YtopfhinnamhoiaaFlowA
namespace Go.Proofs.Ytopfhinnamhoiaa
open Go.RowKit Go.Bs Go.Yd Go.Pl Go.Sort

def rngs (lo hi : Nat → Int) (n : Nat) : List Rng := (List.range n).map fun i => ⟨lo i, hi i⟩
theorem rngs_len (lo hi : Nat → Int) (n : Nat) : (rngs lo hi n).length = n := by simp [rngs]
theorem cells2 {w : World} {B T n : Nat} {lo hi : Nat → Int} (h : IArr w B T (tab (2 * n) (il lo hi))) : Cells w (some ⟨B, 0, none⟩) 2 Rng.enc (rngs lo hi n) := fun i x hx => ⟨B, 0, rfl, fun j y hj => by
  have hi' : i < n := by have := (List.getElem?_eq_some_iff.1 hx).1; rwa [rngs_len] at this
  have hx2 : x = ⟨lo i, hi i⟩ := by simpa [rngs, hi'] using hx.symm
  subst hx2
  rcases j with _ | _ | j
  · simp only [Rng.enc, List.getElem?_cons_zero, Option.some.injEq] at hj
    subst hj
    simpa using h.cell (i := i * 2) (by rw [tab_get _ (by omega), il_even])
  · simp only [Rng.enc, List.getElem?_cons_succ, List.getElem?_cons_zero, Option.some.injEq] at hj
    subst hj
    simpa using h.cell (i := i * 2 + 1) (by rw [tab_get _ (by omega), il_odd])
  · simp [Rng.enc] at hj⟩
theorem Cells.blk {w : World} {A : Option Addr} {sz : Nat} {α : Type} {enc : α → List Value} {l : List α} (h : Cells w A sz enc l) (hs : ∀ x, 0 < (enc x).length) (hn : 0 < l.length) : ∀ k, A.map (·.block) = some k → k < w.heap.size := by
  obtain ⟨b, off, rfl, hc⟩ := h.at hn
  intro k hk
  simp at hk
  subst hk
  have h0 := hs l[0]
  exact cell_lt (hc 0 _ (List.getElem?_eq_getElem h0))

/-- flows by the spec's rows -/
def Gd.flo (g : Gd) : Nat → Int := g.flow g.lo
def Gd.fhi (g : Gd) : Nat → Int := g.flow g.hi
def Gd.dlo (g : Gd) : Nat → Int := g.drop (g.flow g.lo)
def Gd.dhi (g : Gd) : Nat → Int := g.drop (g.flow g.hi)
def flowsR (g : Gd) : List Rng × List Rng × Int := if g.okB then (rngs (Gd.flo g) (Gd.fhi g) g.nodes.length, rngs (Gd.dlo g) (Gd.dhi g) g.nodes.length, 0) else ([], [], 1)
def FlowsOut (R : List Rng × List Rng × Int) (w : World) (e : Ending) (w' : World) : Prop :=
  ∃ v x, e = .returned (.tuple #[v, x, .int .i64 R.2.2]) ∧ FreshL w w' 2 Rng.enc v R.1 ∧ FreshL w w' 2 Rng.enc x R.2.1 ∧ Below w.heap.size w w'

set_option maxRecDepth 100000 in
set_option maxHeartbeats 1000000 in
theorem Flows_any (g : Gd) (A : Option Addr) (n cap : Nat) (w : World) (hn : g.nodes.length = n) (hm : n ≤ 9223372036854775807) (hcap : n ≤ cap) (hd : GdAt w A g) :
    Calls Try.prog 36 #[.agg #[.slice A n cap, .int .i64 g.limit]] w (FlowsOut (flowsR g) w) := by
  have hb0 := ext_alloc w (.cells #[.slice A n cap, .int .i64 g.limit] 43)
  have HV := Lib.hid (gvalid_any g A n cap _ hn hm (hd.ext hb0))
  cases hv : g.okB
  · have hR : flowsR g = ([], [], 1) := by unfold flowsR; rw [hv]; rfl
    have HR := Lib.hid hR
    rw [hv] at HV
    clear hv hR hn hm hcap hd
    go_enter Try.func36, Try.ntmps36
    go_wp2_with fail
    refine HV.out.mono ?_; rintro e w1 ⟨rfl, hb1⟩
    go_wp2
    rw [HR.out]
    go_ret3
    exact ⟨_, _, rfl, FreshL.nil _ _ _ _, FreshL.nil _ _ _ _, ext_trans hb0 hb1⟩
  · have hok := (Gd.okB_iff g).1 hv
    have hlen := hok.len
    have hR : flowsR g = (rngs (Gd.flo g) (Gd.fhi g) n, rngs (Gd.dlo g) (Gd.dhi g) n, 0) := by unfold flowsR; rw [hv, hn]; rfl
    have HR := Lib.hid hR
    rw [hv] at HV
    clear hv hR
    go_enter Try.func36, Try.ntmps36
    go_wp2_with fail
    refine HV.out.mono ?_; rintro e w1 ⟨rfl, hb1⟩
    have hb2 := ext_trans hb0 hb1
    have hx0 : w1.cell? ⟨w.heap.size, 0, none⟩ = some (.slice A n cap) := cell_ext (by simp) hb1
    have hx1 : w1.cell? ⟨w.heap.size, 1, none⟩ = some (.int .i64 g.limit) := cell_ext (by simp) hb1
    have hd2 := hd.ext hb2
    clear hb0 hb1
    go_wp2_with fail
    refine (flows_any g A n cap _ hok hn hcap (Cells.blk hd2 (fun _ => by simp [Nd.enc]) (by omega)) hd2).mono ?_
    rintro e w2 ⟨Bf, Bd, rfl, hb3, hF, hD, h1, h2, h3⟩
    rw [hn] at hF hD
    have lF : Bf < w2.heap.size := Blk.lt hF
    have lD : Bd < w2.heap.size := Blk.lt hD
    have := hb2.size
    have hmx : n ≤ maxLen := by unfold maxLen; omega
    have HN := Lib.hid hn
    clear hn
    go_wp2
    rw [HR.out]
    go_ret3
    rw [HN.out]
    refine ⟨_, _, rfl, ⟨some ⟨Bf, 0, none⟩, n, by simp [rngs_len], by simp [rngs_len], hmx, cells2 hF, ?_⟩, ⟨some ⟨Bd, 0, none⟩, n, by simp [rngs_len], by simp [rngs_len], hmx, cells2 hD, ?_⟩, ext_trans hb2 hb3⟩
    · intro k hk; simp at hk; omega
    · intro k hk; simp at hk; omega
def ThreePost (R : List Int × List Int × Int) (w : World) (e : Ending) (w' : World) : Prop :=
  ∃ v x, e = .returned (.tuple #[v, x, .int .i64 R.2.2]) ∧ FreshL w w' 1 encI v R.1 ∧ FreshL w w' 1 encI x R.2.1 ∧ Below w.heap.size w w'

def blownR (g : Gd) : List Int × List Int × Int := if g.okB then (natsI (overN (Gd.fuseOf g) (Gd.fhi g) g.nodes.length), natsI (overN (Gd.fuseOf g) (Gd.flo g) g.nodes.length), 0) else ([], [], 1)
set_option maxRecDepth 100000 in
set_option maxHeartbeats 1000000 in
theorem Blown_any (g : Gd) (A : Option Addr) (n cap : Nat) (w : World) (hn : g.nodes.length = n) (hm : n ≤ 9223372036854775807) (hcap : n ≤ cap) (hd : GdAt w A g) :
    Calls Try.prog 37 #[.agg #[.slice A n cap, .int .i64 g.limit]] w (ThreePost (blownR g) w) := by
  have hb0 := ext_alloc w (.cells #[.slice A n cap, .int .i64 g.limit] 43)
  have HV := Lib.hid (gvalid_any g A n cap _ hn hm (hd.ext hb0))
  cases hv : g.okB
  · have hR : blownR g = ([], [], 1) := by unfold blownR; rw [hv]; rfl
    have HR := Lib.hid hR
    rw [hv] at HV
    clear hv hR hn hm hcap hd
    go_enter Try.func37, Try.ntmps37
    go_wp2_with fail
    refine HV.out.mono ?_; rintro e w1 ⟨rfl, hb1⟩
    go_wp2
    rw [HR.out]
    go_ret3
    exact ⟨_, _, rfl, FreshL.nil _ _ _ _, FreshL.nil _ _ _ _, ext_trans hb0 hb1⟩
  · have hok := (Gd.okB_iff g).1 hv
    have hlen := hok.len
    have hR : blownR g = (natsI (overN (Gd.fuseOf g) (Gd.fhi g) n), natsI (overN (Gd.fuseOf g) (Gd.flo g) n), 0) := by unfold blownR; rw [hv, hn]; rfl
    have HR := Lib.hid hR
    rw [hv] at HV
    clear hv hR
    go_enter Try.func37, Try.ntmps37
    go_wp2_with fail
    refine HV.out.mono ?_; rintro e w1 ⟨rfl, hb1⟩
    have hb2 := ext_trans hb0 hb1
    have hx0 : w1.cell? ⟨w.heap.size, 0, none⟩ = some (.slice A n cap) := cell_ext (by simp) hb1
    have hx1 : w1.cell? ⟨w.heap.size, 1, none⟩ = some (.int .i64 g.limit) := cell_ext (by simp) hb1
    have hd2 := hd.ext hb2
    clear hb0 hb1
    go_wp2_with fail
    refine (flows_any g A n cap _ hok hn hcap (Cells.blk hd2 (fun _ => by simp [Nd.enc]) (by omega)) hd2).mono ?_
    rintro e w2 ⟨Bf, Bd, rfl, hb3, hF, hD, h1, h2, h3⟩
    rw [hn] at hF hD
    have hy0 := cell_ext hx0 hb3
    have hy1 := cell_ext hx1 hb3
    have hb4 := ext_trans hb2 hb3
    have hd4 := hd.ext hb4
    have HN := Lib.hid hn
    rw [hn]
    clear hn hx0 hx1
    go_wp2_with fail
    refine (above_any 78 #[.agg #[.slice A n cap, .int .i64 g.limit]] (Gd.fuseOf g) (Gd.flo g) (Gd.fhi g) Bf n w2 (enters_of Try.func78 (by kernel_rfl) rfl) (by have := HN.out; omega) hF ?_).mono ?_
    · intro w' i hi hb
      exact fuse_any g A n cap i w' (by have := HN.out; omega) HN.out (hd4.ext hb)
    rintro e w3 ⟨v, u, rfl, hv, hu, hb5⟩
    go_wp2
    rw [HR.out]
    go_ret3
    exact ⟨_, _, rfl, hv.older hb4.size, hu.older hb4.size, ext_trans hb4 hb5⟩

def lowR (g : Gd) : List Int × List Int × Int := if g.okB then (natsI (overN (fun _ => g.limit) (Gd.dhi g) g.nodes.length), natsI (overN (fun _ => g.limit) (Gd.dlo g) g.nodes.length), 0) else ([], [], 1)
set_option maxRecDepth 100000 in
set_option maxHeartbeats 1000000 in
theorem Low_any (g : Gd) (A : Option Addr) (n cap : Nat) (w : World) (hn : g.nodes.length = n) (hm : n ≤ 9223372036854775807) (hcap : n ≤ cap) (hd : GdAt w A g) :
    Calls Try.prog 38 #[.agg #[.slice A n cap, .int .i64 g.limit]] w (ThreePost (lowR g) w) := by
  have hb0 := ext_alloc w (.cells #[.slice A n cap, .int .i64 g.limit] 43)
  have HV := Lib.hid (gvalid_any g A n cap _ hn hm (hd.ext hb0))
  cases hv : g.okB
  · have hR : lowR g = ([], [], 1) := by unfold lowR; rw [hv]; rfl
    have HR := Lib.hid hR
    rw [hv] at HV
    clear hv hR hn hm hcap hd
    go_enter Try.func38, Try.ntmps38
    go_wp2_with fail
    refine HV.out.mono ?_; rintro e w1 ⟨rfl, hb1⟩
    go_wp2
    rw [HR.out]
    go_ret3
    exact ⟨_, _, rfl, FreshL.nil _ _ _ _, FreshL.nil _ _ _ _, ext_trans hb0 hb1⟩
  · have hok := (Gd.okB_iff g).1 hv
    have hlen := hok.len
    have hR : lowR g = (natsI (overN (fun _ => g.limit) (Gd.dhi g) n), natsI (overN (fun _ => g.limit) (Gd.dlo g) n), 0) := by unfold lowR; rw [hv, hn]; rfl
    have HR := Lib.hid hR
    rw [hv] at HV
    clear hv hR
    go_enter Try.func38, Try.ntmps38
    go_wp2_with fail
    refine HV.out.mono ?_; rintro e w1 ⟨rfl, hb1⟩
    have hb2 := ext_trans hb0 hb1
    have hx0 : w1.cell? ⟨w.heap.size, 0, none⟩ = some (.slice A n cap) := cell_ext (by simp) hb1
    have hx1 : w1.cell? ⟨w.heap.size, 1, none⟩ = some (.int .i64 g.limit) := cell_ext (by simp) hb1
    have hd2 := hd.ext hb2
    clear hb0 hb1
    go_wp2_with fail
    refine (flows_any g A n cap _ hok hn hcap (Cells.blk hd2 (fun _ => by simp [Nd.enc]) (by omega)) hd2).mono ?_
    rintro e w2 ⟨Bf, Bd, rfl, hb3, hF, hD, h1, h2, h3⟩
    rw [hn] at hF hD
    have hy0 := cell_ext hx0 hb3
    have hy1 := cell_ext hx1 hb3
    have hb4 := ext_trans hb2 hb3
    have hd4 := hd.ext hb4
    have HN := Lib.hid hn
    rw [hn]
    clear hn hx0 hx1
    go_wp2_with fail
    refine (above_any 79 #[.agg #[.slice A n cap, .int .i64 g.limit]] (fun _ => g.limit) (Gd.dlo g) (Gd.dhi g) Bd n w2 (enters_of Try.func79 (by kernel_rfl) rfl) (by have := HN.out; omega) hD ?_).mono ?_
    · intro w' i hi hb
      exact limit_any g A n cap (i : Int) w'
    rintro e w3 ⟨v, u, rfl, hv, hu, hb5⟩
    go_wp2
    rw [HR.out]
    go_ret3
    exact ⟨_, _, rfl, hv.older hb4.size, hu.older hb4.size, ext_trans hb4 hb5⟩
end Go.Proofs.Ytopfhinnamhoiaa
