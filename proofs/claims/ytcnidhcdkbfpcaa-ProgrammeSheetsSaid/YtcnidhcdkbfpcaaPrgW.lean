/- Walks of small words: within, fits, In, Has, below; how a show lies in memory. -/
import Derived.Shelf.Abstract
import Derived.Deep.DeepCutAuto
import Derived.Deep.CutBlock
import Derived.Maps.RangeWalk
import Derived.Lib.RabinKarpLaws
import Derived.Laws.EntriesVeiled
import Derived.Test.YtcnidhcdkbfpcaaTooA
import Derived.Test.YtcnidhcdkbfpcaaPrgR
import Derived.Test.YtcnidhcdkbfpcaaProg
namespace Go.Pg
open Go.RowKit Go.Bs
/-- an act, and where its casts lie -/
structure AcV where
  a : Ac
  C : Option Addr
  c : Nat
def AcV.enc (x : AcV) : List Value := [.int .i64 x.a.min, .int .i64 x.a.ten, .int .u16 x.a.rigs, .slice x.C x.a.casts.length x.c, .bool x.a.spare]
def AcV.val (x : AcV) : Value := .agg #[.int .i64 x.a.min, .int .i64 x.a.ten, .int .u16 x.a.rigs, .slice x.C x.a.casts.length x.c, .bool x.a.spare]
def encU (x : Nat) : List Value := [.int .u16 x]
def valU (x : Nat) : Value := .int .u16 x
def encP (p : Int × Int) : List Value := [.int .i64 p.1, .int .i64 p.2]
def valP (p : Int × Int) : Value := .agg #[.int .i64 p.1, .int .i64 p.2]
def Nx.enc (y : Nx) : List Value := [.int .i64 y.act, .int .i64 y.cost, .int .u16 y.st.set, .int .i64 y.st.last, .int .i64 y.st.sec]
def Nx.val (y : Nx) : Value := .agg #[.int .i64 y.act, .int .i64 y.cost, .int .u16 y.st.set, .int .i64 y.st.last, .int .i64 y.st.sec]
def St.val (x : St) : Value := .agg #[.int .u16 x.set, .int .i64 x.last, .int .i64 x.sec]
/-- a row, and where it lies -/
structure RwV where
  r : List Int
  A : Option Addr
  c : Nat
def RwV.val (x : RwV) : Value := .slice x.A x.r.length x.c
def RwV.enc (x : RwV) : List Value := [.slice x.A x.r.length x.c]
theorem acv_len (x : AcV) : (AcV.enc x).length = 5 := rfl
theorem nx_len (x : Nx) : (Nx.enc x).length = 5 := rfl
theorem encU_len (x : Nat) : (encU x).length = 1 := rfl
theorem encP_len (x : Int × Int) : (encP x).length = 2 := rfl
theorem rwv_len (x : RwV) : (RwV.enc x).length = 1 := rfl
theorem acv_one (x : AcV) : ∀ u ∈ AcV.enc x, u.oneCell' = true := by intro u hu; simp [AcV.enc] at hu; rcases hu with rfl | rfl | rfl | rfl | rfl <;> rfl
theorem nx_one (x : Nx) : ∀ u ∈ Nx.enc x, u.oneCell' = true := by intro u hu; simp [Nx.enc] at hu; rcases hu with rfl | rfl | rfl | rfl | rfl <;> rfl
theorem encU_one (x : Nat) : ∀ u ∈ encU x, u.oneCell' = true := by intro u hu; simp [encU] at hu; rw [hu]; rfl
theorem encP_one (x : Int × Int) : ∀ u ∈ encP x, u.oneCell' = true := by intro u hu; simp [encP] at hu; rcases hu with rfl | rfl <;> rfl
theorem rwv_one (x : RwV) : ∀ u ∈ RwV.enc x, u.oneCell' = true := by intro u hu; simp [RwV.enc] at hu; rw [hu]; rfl
/-- where a show lies -/
structure ShP where
  av : List AcV
  A : Option Addr
  R : Option Addr
  I : Option Addr
  O : Option Addr
  B : Option Addr
  cA : Nat
  cR : Nat
  cI : Nat
  cO : Nat
  cB : Nat
def shC (s : Sh) (p : ShP) : List Value := [.slice p.A s.acts.length p.cA, .slice p.R s.rest.length p.cR, .slice p.I s.ins.length p.cI, .slice p.O s.outs.length p.cO, .int .i64 s.cover, .int .i64 s.dull, .slice p.B s.before.length p.cB]
def shV (s : Sh) (p : ShP) : Value := .agg #[.slice p.A s.acts.length p.cA, .slice p.R s.rest.length p.cR, .slice p.I s.ins.length p.cI, .slice p.O s.outs.length p.cO, .int .i64 s.cover, .int .i64 s.dull, .slice p.B s.before.length p.cB]
structure ShM (w : World) (s : Sh) (p : ShP) : Prop where
  eq : p.av.map AcV.a = s.acts
  acts : Cells w p.A 5 AcV.enc p.av
  casts : ∀ x ∈ p.av, Cells w x.C 1 encU x.a.casts
  rest : Cells w p.R 1 encI s.rest
  ins : Cells w p.I 1 encI s.ins
  outs : Cells w p.O 1 encI s.outs
  before : Cells w p.B 2 encP s.before
  bits : ∀ a ∈ s.acts, a.rigs < 65536 ∧ a.casts.length ≤ 1000 ∧ ∀ c ∈ a.casts, c < 65536
  small : s.acts.length ≤ 1000 ∧ s.rest.length ≤ 1000 ∧ s.ins.length ≤ 1000 ∧ s.outs.length ≤ 1000 ∧ s.before.length ≤ 1000
theorem ShM.ext {w w' : World} {s : Sh} {p : ShP} (h : ShM w s p) (hb : Below w.heap.size w w') : ShM w' s p :=
  ⟨h.eq, h.acts.ext hb, fun x hx => (h.casts x hx).ext hb, h.rest.ext hb, h.ins.ext hb, h.outs.ext hb, h.before.ext hb, h.bits, h.small⟩
theorem ShM.len {w : World} {s : Sh} {p : ShP} (h : ShM w s p) : p.av.length = s.acts.length := by rw [← h.eq, List.length_map]
/-- an act in memory -/
theorem ShM.at {w : World} {s : Sh} {p : ShP} (h : ShM w s p) {i : Nat} (hi : i < s.acts.length) :
    ∃ b off C c, p.A = some ⟨b, off, none⟩ ∧ b < w.heap.size ∧ w.cell? ⟨b, off + i * 5, none⟩ = some (.int .i64 (s.act i).min) ∧ w.cell? ⟨b, off + i * 5 + 1, none⟩ = some (.int .i64 (s.act i).ten) ∧ w.cell? ⟨b, off + i * 5 + 2, none⟩ = some (.int .u16 (s.act i).rigs) ∧
      w.cell? ⟨b, off + i * 5 + 3, none⟩ = some (.slice C (s.act i).casts.length c) ∧ w.cell? ⟨b, off + i * 5 + 4, none⟩ = some (.bool (s.act i).spare) ∧ Cells w C 1 encU (s.act i).casts := by
  have hk : i < p.av.length := by rw [h.len]; exact hi
  obtain ⟨b, off, hA, hb, c0, c1, c2, c3, c4⟩ := h.acts.at5 hk rfl
  have e : (p.av[i]).a = s.act i := by
    rw [Sh.act_eq hi]
    have := h.eq
    have h2 : (p.av.map AcV.a)[i]? = s.acts[i]? := by rw [this]
    simpa [hk, hi] using h2
  have hc := h.casts _ (List.getElem_mem hk)
  rw [e] at c0 c1 c2 c3 c4 hc
  exact ⟨b, off, _, _, hA, hb, c0, c1, c2, c3, c4, hc⟩
theorem ShM.bit {w : World} {s : Sh} {p : ShP} (h : ShM w s p) {i : Nat} (hi : i < s.acts.length) : (s.act i).rigs < 65536 ∧ (s.act i).casts.length ≤ 1000 ∧ ∀ c ∈ (s.act i).casts, c < 65536 := by
  rw [Sh.act_eq hi]; exact h.bits _ (List.getElem_mem hi)
/-- what is asked of a function value that a function is handed -/
def PredF {α : Type} (P : Program) (g : Nat) (fa lb : Array Value) (encv : α → Value) (p : α → Bool) (w : World) (l : List α) : Prop :=
  ∀ (W : World) (x : α), x ∈ l → Below w.heap.size w W → Calls P g (fa ++ #[encv x] ++ lb) W fun e w' => e = .returned (.bool (p x)) ∧ Below W.heap.size W w'
theorem PredF.later {α : Type} {P : Program} {g : Nat} {fa lb : Array Value} {encv : α → Value} {p : α → Bool} {w W : World} {l : List α} (h : PredF P g fa lb encv p w l) (hb : Below w.heap.size w W) : PredF P g fa lb encv p W l :=
  fun W' x hx hb' => h W' x hx (ext_trans hb hb')
end Go.Pg
namespace Go.Proofs.Ytcnidhcdkbfpcaa
open Go.RowKit Go.Bs Go.Pg Go.Pl Go.Sort

theorem sz3 : ∀ w, (sizeOf 3).run Try.prog w = .ok 1 w := fun w => by kernel_rfl
theorem info3 : (Try.prog.info? 3).map (fun i => (i.zero, i.size, i.bytes)) = some (some (.int .i64 0), 1, 8) := by kernel_rfl
theorem et23 : ElemT Try.prog 23 3 1 8 := ElemT.mk Try.underlying23 info3 rfl
theorem within_any (n lo hi : Int) (w : World) :
    Calls Try.prog 54 #[.int .i64 n, .int .i64 lo, .int .i64 hi] w fun e w' => e = .returned (.bool (btw n lo hi)) ∧ w = w' := by
  unfold btw
  generalize hres : decide (lo ≤ n ∧ n ≤ hi) = res
  have Hres := Lib.hid hres
  clear hres
  by_cases h : lo ≤ n
  · go_enter Try.func54, Try.ntmps54
    go_wp2
    go_ret
    exact ⟨ret_congr (bool_congr (by rw [← Hres.out]; simp [h])), rfl⟩
  · go_enter Try.func54, Try.ntmps54
    go_wp2
    go_ret
    exact ⟨ret_congr (bool_congr (by rw [← Hres.out]; simp; omega)), rfl⟩
theorem In_any (n lo hi : Int) (w : World) :
    Calls Try.prog 30 #[.int .i64 n, .int .i64 lo, .int .i64 hi] w fun e w' => e = .returned (.bool (btw n lo hi)) ∧ w = w' := by
  unfold btw
  generalize hres : decide (lo ≤ n ∧ n ≤ hi) = res
  have Hres := Lib.hid hres
  clear hres
  by_cases h : lo ≤ n
  · go_enter Try.func30, Try.ntmps30
    go_wp2
    go_ret
    exact ⟨ret_congr (bool_congr (by rw [← Hres.out]; simp [h])), rfl⟩
  · go_enter Try.func30, Try.ntmps30
    go_wp2
    go_ret
    exact ⟨ret_congr (bool_congr (by rw [← Hres.out]; simp; omega)), rfl⟩
theorem fits_any (s n : Nat) (w : World) (hs : s < 65536) (hn : n ≤ 1000) :
    Calls Try.prog 91 #[.int .u16 s, .int .i64 n] w fun e w' => e = .returned (.bool (fitsB s n)) ∧ w = w' := by
  have hr : ((s : Int) / 2 ^ min n 64 == 0) = fitsB s n := by
    unfold fitsB
    have e : (s : Int) / 2 ^ min n 64 = ((s / 2 ^ min n 64 : Nat) : Int) := by norm_cast
    rw [e]
    by_cases h : n ≤ 64
    · rw [Nat.min_eq_left h, Bool.eq_iff_iff]
      simp only [beq_iff_eq, decide_eq_true_eq]
      omega
    · have h1 : s / 2 ^ min n 64 = 0 := by rw [Nat.min_eq_right (by omega)]; exact Nat.div_eq_of_lt (by omega)
      have h2 : s / 2 ^ n = 0 := Nat.div_eq_of_lt (Nat.lt_of_lt_of_le hs (show 2 ^ 16 ≤ 2 ^ n from Nat.pow_le_pow_right (by omega) (by omega)))
      rw [h1, h2]; rfl
  generalize fitsB s n = q at *
  have Hr := Lib.hid hr
  clear hr
  go_enter Try.func91, Try.ntmps91
  go_wp2
  go_ret
  exact ⟨ret_congr (bool_congr Hr.out), rfl⟩
theorem bit_div (s i : Nat) : decide ((s : Int) / ((2 ^ i : Nat) : Int) % 2 = 1) = s.testBit i := by
  rw [Nat.testBit_eq_decide_div_mod_eq]
  congr 1
  rw [eq_iff_iff]
  omega
theorem has_any (s i : Nat) (w : World) (hs : s < 65536) (hn : i ≤ 1000) :
    Calls Try.prog 50 #[.int .u16 s, .int .i64 i] w fun e w' => e = .returned (.bool (decide (i < 16) && s.testBit i)) ∧ w = w' := by
  by_cases h : i < 16
  · have h0 : decide (i < 16) = true := by simp [h]
    rw [h0, Bool.true_and, ← bit_div]
    have hi : i = 0 ∨ i = 1 ∨ i = 2 ∨ i = 3 ∨ i = 4 ∨ i = 5 ∨ i = 6 ∨ i = 7 ∨ i = 8 ∨ i = 9 ∨ i = 10 ∨ i = 11 ∨ i = 12 ∨ i = 13 ∨ i = 14 ∨ i = 15 := by omega
    rcases hi with rfl | rfl | rfl | rfl | rfl | rfl | rfl | rfl | rfl | rfl | rfl | rfl | rfl | rfl | rfl | rfl
    all_goals
      go_enter Try.func50, Try.ntmps50
      go_wp2
      go_ret
      exact ⟨ret_congr (bool_congr (by rw [Bool.eq_iff_iff]; simp only [beq_iff_eq, decide_eq_true_eq]; omega)), rfl⟩
  · go_enter Try.func50, Try.ntmps50
    go_wp2
    go_ret
    exact ⟨ret_congr (bool_congr (by simp)), rfl⟩
end Go.Proofs.Ytcnidhcdkbfpcaa
