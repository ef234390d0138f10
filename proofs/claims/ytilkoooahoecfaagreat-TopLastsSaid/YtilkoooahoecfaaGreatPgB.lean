/- Shows in memory; slices searched; valid; kept blocks. -/
import Derived.Shelf.Abstract
import Derived.Deep.DeepCutAuto
import Derived.Deep.CutBlock
import Derived.Maps.RangeWalk
import Derived.Lib.RabinKarpLaws
import Derived.Laws.EntriesVeiled
import Derived.RangeFuncNested
import Derived.RangeFuncBound
import Derived.RangeFuncCalls
import Derived.RangeFuncLeaves
import Derived.OwnWalkIn
import Derived.TacticsInMore
import Derived.LoopNIn
import Derived.LoopIn
import Derived.Sort.CutIn
import Derived.Test.YtilkoooahoecfaaGreatTooA
import Derived.Test.YtilkoooahoecfaaGreatPgA
import Derived.Test.YtilkoooahoecfaaGreatProg
/- Walks of small words: within, fits, In, Has, below; how a show lies in memory. -/
namespace Go.Pg
open Go.RowKit Go.Bs
/-- an act, and where its casts lie -/
structure AcV where
  a : Ac
  C : Option Addr
  c : Nat
def AcV.enc (x : AcV) : List Value := [.int .i64 x.a.min, .int .i64 x.a.ten, .int .u16 x.a.rigs, .slice x.C x.a.casts.length x.c, .bool x.a.spare]
def AcV.val (x : AcV) : Value := .agg #[.int .i64 x.a.min, .int .i64 x.a.ten, .int .u16 x.a.rigs, .slice x.C x.a.casts.length x.c, .bool x.a.spare]
def encU (x : Nat) : List Value := [.int .u16 x]
def valU (x : Nat) : Value := .int .u16 x
def encP (p : Int × Int) : List Value := [.int .i64 p.1, .int .i64 p.2]
def valP (p : Int × Int) : Value := .agg #[.int .i64 p.1, .int .i64 p.2]
def Nx.enc (y : Nx) : List Value := [.int .i64 y.act, .int .i64 y.cost, .int .u16 y.st.set, .int .i64 y.st.last, .int .i64 y.st.sec]
def Nx.val (y : Nx) : Value := .agg #[.int .i64 y.act, .int .i64 y.cost, .int .u16 y.st.set, .int .i64 y.st.last, .int .i64 y.st.sec]
def St.val (x : St) : Value := .agg #[.int .u16 x.set, .int .i64 x.last, .int .i64 x.sec]
/-- a row, and where it lies -/
structure RwV where
  r : List Int
  A : Option Addr
  c : Nat
def RwV.val (x : RwV) : Value := .slice x.A x.r.length x.c
def RwV.enc (x : RwV) : List Value := [.slice x.A x.r.length x.c]
theorem acv_len (x : AcV) : (AcV.enc x).length = 5 := rfl
theorem nx_len (x : Nx) : (Nx.enc x).length = 5 := rfl
theorem encU_len (x : Nat) : (encU x).length = 1 := rfl
theorem encP_len (x : Int × Int) : (encP x).length = 2 := rfl
theorem rwv_len (x : RwV) : (RwV.enc x).length = 1 := rfl
theorem acv_one (x : AcV) : ∀ u ∈ AcV.enc x, u.oneCell' = true := by intro u hu; simp [AcV.enc] at hu; rcases hu with rfl | rfl | rfl | rfl | rfl <;> rfl
theorem nx_one (x : Nx) : ∀ u ∈ Nx.enc x, u.oneCell' = true := by intro u hu; simp [Nx.enc] at hu; rcases hu with rfl | rfl | rfl | rfl | rfl <;> rfl
theorem encU_one (x : Nat) : ∀ u ∈ encU x, u.oneCell' = true := by intro u hu; simp [encU] at hu; rw [hu]; rfl
theorem encP_one (x : Int × Int) : ∀ u ∈ encP x, u.oneCell' = true := by intro u hu; simp [encP] at hu; rcases hu with rfl | rfl <;> rfl
theorem rwv_one (x : RwV) : ∀ u ∈ RwV.enc x, u.oneCell' = true := by intro u hu; simp [RwV.enc] at hu; rw [hu]; rfl
/-- where a show lies -/
structure ShP where
  av : List AcV
  A : Option Addr
  R : Option Addr
  I : Option Addr
  O : Option Addr
  B : Option Addr
  cA : Nat
  cR : Nat
  cI : Nat
  cO : Nat
  cB : Nat
def shC (s : Sh) (p : ShP) : List Value := [.slice p.A s.acts.length p.cA, .slice p.R s.rest.length p.cR, .slice p.I s.ins.length p.cI, .slice p.O s.outs.length p.cO, .int .i64 s.cover, .int .i64 s.dull, .slice p.B s.before.length p.cB]
def shV (s : Sh) (p : ShP) : Value := .agg #[.slice p.A s.acts.length p.cA, .slice p.R s.rest.length p.cR, .slice p.I s.ins.length p.cI, .slice p.O s.outs.length p.cO, .int .i64 s.cover, .int .i64 s.dull, .slice p.B s.before.length p.cB]
structure ShM (w : World) (s : Sh) (p : ShP) : Prop where
  eq : p.av.map AcV.a = s.acts
  acts : Cells w p.A 5 AcV.enc p.av
  casts : ∀ x ∈ p.av, Cells w x.C 1 encU x.a.casts
  rest : Cells w p.R 1 encI s.rest
  ins : Cells w p.I 1 encI s.ins
  outs : Cells w p.O 1 encI s.outs
  before : Cells w p.B 2 encP s.before
  bits : ∀ a ∈ s.acts, a.rigs < 65536 ∧ a.casts.length ≤ 1000 ∧ ∀ c ∈ a.casts, c < 65536
  small : s.acts.length ≤ 1000 ∧ s.rest.length ≤ 1000 ∧ s.ins.length ≤ 1000 ∧ s.outs.length ≤ 1000 ∧ s.before.length ≤ 1000
theorem ShM.ext {w w' : World} {s : Sh} {p : ShP} (h : ShM w s p) (hb : Below w.heap.size w w') : ShM w' s p :=
  ⟨h.eq, h.acts.ext hb, fun x hx => (h.casts x hx).ext hb, h.rest.ext hb, h.ins.ext hb, h.outs.ext hb, h.before.ext hb, h.bits, h.small⟩
theorem ShM.len {w : World} {s : Sh} {p : ShP} (h : ShM w s p) : p.av.length = s.acts.length := by rw [← h.eq, List.length_map]
/-- an act in memory -/
theorem ShM.at {w : World} {s : Sh} {p : ShP} (h : ShM w s p) {i : Nat} (hi : i < s.acts.length) :
    ∃ b off C c, p.A = some ⟨b, off, none⟩ ∧ b < w.heap.size ∧ w.cell? ⟨b, off + i * 5, none⟩ = some (.int .i64 (s.act i).min) ∧ w.cell? ⟨b, off + i * 5 + 1, none⟩ = some (.int .i64 (s.act i).ten) ∧ w.cell? ⟨b, off + i * 5 + 2, none⟩ = some (.int .u16 (s.act i).rigs) ∧
      w.cell? ⟨b, off + i * 5 + 3, none⟩ = some (.slice C (s.act i).casts.length c) ∧ w.cell? ⟨b, off + i * 5 + 4, none⟩ = some (.bool (s.act i).spare) ∧ Cells w C 1 encU (s.act i).casts := by
  have hk : i < p.av.length := by rw [h.len]; exact hi
  obtain ⟨b, off, hA, hb, c0, c1, c2, c3, c4⟩ := h.acts.at5 hk rfl
  have e : (p.av[i]).a = s.act i := by
    rw [Sh.act_eq hi]
    have := h.eq
    have h2 : (p.av.map AcV.a)[i]? = s.acts[i]? := by rw [this]
    simpa [hk, hi] using h2
  have hc := h.casts _ (List.getElem_mem hk)
  rw [e] at c0 c1 c2 c3 c4 hc
  exact ⟨b, off, _, _, hA, hb, c0, c1, c2, c3, c4, hc⟩
theorem ShM.bit {w : World} {s : Sh} {p : ShP} (h : ShM w s p) {i : Nat} (hi : i < s.acts.length) : (s.act i).rigs < 65536 ∧ (s.act i).casts.length ≤ 1000 ∧ ∀ c ∈ (s.act i).casts, c < 65536 := by
  rw [Sh.act_eq hi]; exact h.bits _ (List.getElem_mem hi)
/-- what is asked of a function value that a function is handed -/
def PredF {α : Type} (P : Program) (g : Nat) (fa lb : Array Value) (encv : α → Value) (p : α → Bool) (w : World) (l : List α) : Prop :=
  ∀ (W : World) (x : α), x ∈ l → Below w.heap.size w W → Calls P g (fa ++ #[encv x] ++ lb) W fun e w' => e = .returned (.bool (p x)) ∧ Below W.heap.size W w'
theorem PredF.later {α : Type} {P : Program} {g : Nat} {fa lb : Array Value} {encv : α → Value} {p : α → Bool} {w W : World} {l : List α} (h : PredF P g fa lb encv p w l) (hb : Below w.heap.size w W) : PredF P g fa lb encv p W l :=
  fun W' x hx hb' => h W' x hx (ext_trans hb hb')
end Go.Pg
namespace Go.Proofs.YtilkoooahoecfaaGreat
open Go.RowKit Go.Bs Go.Pg Go.Pl Go.Sort

theorem sz3 : ∀ w, (sizeOf 3).run Tryz.prog w = .ok 1 w := fun w => by kernel_rfl
theorem info3 : (Tryz.prog.info? 3).map (fun i => (i.zero, i.size, i.bytes)) = some (some (.int .i64 0), 1, 8) := by kernel_rfl
theorem et23 : ElemT Tryz.prog 23 3 1 8 := ElemT.mk Tryz.underlying23 info3 rfl
theorem within_any (n lo hi : Int) (w : World) :
    Calls Tryz.prog 68 #[.int .i64 n, .int .i64 lo, .int .i64 hi] w fun e w' => e = .returned (.bool (btw n lo hi)) ∧ w = w' := by
  unfold btw
  generalize hres : decide (lo ≤ n ∧ n ≤ hi) = res
  have Hres := Lib.hid hres
  clear hres
  by_cases h : lo ≤ n
  · go_enter Tryz.func68, Tryz.ntmps68
    go_wp2
    go_ret
    exact ⟨ret_congr (bool_congr (by rw [← Hres.out]; simp [h])), rfl⟩
  · go_enter Tryz.func68, Tryz.ntmps68
    go_wp2
    go_ret
    exact ⟨ret_congr (bool_congr (by rw [← Hres.out]; simp; omega)), rfl⟩
theorem In_any (n lo hi : Int) (w : World) :
    Calls Tryz.prog 11 #[.int .i64 n, .int .i64 lo, .int .i64 hi] w fun e w' => e = .returned (.bool (btw n lo hi)) ∧ w = w' := by
  unfold btw
  generalize hres : decide (lo ≤ n ∧ n ≤ hi) = res
  have Hres := Lib.hid hres
  clear hres
  by_cases h : lo ≤ n
  · go_enter Tryz.func11, Tryz.ntmps11
    go_wp2
    go_ret
    exact ⟨ret_congr (bool_congr (by rw [← Hres.out]; simp [h])), rfl⟩
  · go_enter Tryz.func11, Tryz.ntmps11
    go_wp2
    go_ret
    exact ⟨ret_congr (bool_congr (by rw [← Hres.out]; simp; omega)), rfl⟩
theorem fits_any (s n : Nat) (w : World) (hs : s < 65536) (hn : n ≤ 1000) :
    Calls Tryz.prog 92 #[.int .u16 s, .int .i64 n] w fun e w' => e = .returned (.bool (fitsB s n)) ∧ w = w' := by
  have hr : ((s : Int) / 2 ^ min n 64 == 0) = fitsB s n := by
    unfold fitsB
    have e : (s : Int) / 2 ^ min n 64 = ((s / 2 ^ min n 64 : Nat) : Int) := by norm_cast
    rw [e]
    by_cases h : n ≤ 64
    · rw [Nat.min_eq_left h, Bool.eq_iff_iff]
      simp only [beq_iff_eq, decide_eq_true_eq]
      omega
    · have h1 : s / 2 ^ min n 64 = 0 := by rw [Nat.min_eq_right (by omega)]; exact Nat.div_eq_of_lt (by omega)
      have h2 : s / 2 ^ n = 0 := Nat.div_eq_of_lt (Nat.lt_of_lt_of_le hs (show 2 ^ 16 ≤ 2 ^ n from Nat.pow_le_pow_right (by omega) (by omega)))
      rw [h1, h2]; rfl
  generalize fitsB s n = q at *
  have Hr := Lib.hid hr
  clear hr
  go_enter Tryz.func92, Tryz.ntmps92
  go_wp2
  go_ret
  exact ⟨ret_congr (bool_congr Hr.out), rfl⟩
theorem bit_div (s i : Nat) : decide ((s : Int) / ((2 ^ i : Nat) : Int) % 2 = 1) = s.testBit i := by
  rw [Nat.testBit_eq_decide_div_mod_eq]
  congr 1
  rw [eq_iff_iff]
  omega
theorem has_any (s i : Nat) (w : World) (hs : s < 65536) (hn : i ≤ 1000) :
    Calls Tryz.prog 20 #[.int .u16 s, .int .i64 i] w fun e w' => e = .returned (.bool (decide (i < 16) && s.testBit i)) ∧ w = w' := by
  by_cases h : i < 16
  · have h0 : decide (i < 16) = true := by simp [h]
    rw [h0, Bool.true_and, ← bit_div]
    have hi : i = 0 ∨ i = 1 ∨ i = 2 ∨ i = 3 ∨ i = 4 ∨ i = 5 ∨ i = 6 ∨ i = 7 ∨ i = 8 ∨ i = 9 ∨ i = 10 ∨ i = 11 ∨ i = 12 ∨ i = 13 ∨ i = 14 ∨ i = 15 := by omega
    rcases hi with rfl | rfl | rfl | rfl | rfl | rfl | rfl | rfl | rfl | rfl | rfl | rfl | rfl | rfl | rfl | rfl
    all_goals
      go_enter Tryz.func20, Tryz.ntmps20
      go_wp2
      go_ret
      exact ⟨ret_congr (bool_congr (by rw [Bool.eq_iff_iff]; simp only [beq_iff_eq, decide_eq_true_eq]; omega)), rfl⟩
  · go_enter Tryz.func20, Tryz.ntmps20
    go_wp2
    go_ret
    exact ⟨ret_congr (bool_congr (by simp)), rfl⟩
end Go.Proofs.YtilkoooahoecfaaGreat

/- Walks: all, slices.ContainsFunc, slices.IndexFunc at each element type. (Printed by mk_prga.py.) -/
namespace Go.Proofs.YtilkoooahoecfaaGreat
open Go.RowKit Go.Bs Go.Pg Go.Pl Go.Sort

set_option maxHeartbeats 800000 in
theorem index_int (g : Nat) (fa lb : Array Value) (p : (Int) → Bool) (A : Option Addr) (n cap : Nat) (l : List (Int)) (w : World) (eg : Enters Tryz.prog g) (hn : l.length = n) (hm : n ≤ 9223372036854775807) (hd : Cells w A 1 encI l)
    (hp : PredF Tryz.prog g fa lb (Value.int .i64) p w l) :
    Calls Tryz.prog 84 #[.slice A n cap, .func (.func g) fa lb] w fun e w' => e = .returned (.int .i64 (idxF p l)) ∧ Below w.heap.size w w' := by
  have Hn := Lib.hid hn
  clear hn
  generalize hres : idxF p l = res
  have Hres := Lib.hid hres
  clear hres
  unfold Enters at eg
  go_enter Tryz.func84, Tryz.ntmps84
  go_wp2
  go_loopw [5, 8] (fun _ t wr => ∃ (k : Nat), k ≤ n ∧ t = .int .i64 k ∧ Hid (∀ x ∈ l.take k, p x = false) ∧ Below w.heap.size w wr) (fun _ t _ => n - (intOf t).toNat)
  case atStart => exact ⟨0, by omega, rfl, Lib.hid (by simp), Below.refl _ _⟩
  case round =>
    obtain ⟨k, hk, rfl, Hk, hb⟩ := hrel
    by_cases hlt : k < n
    · have hk1 : k < l.length := by rw [Hn.out]; exact hlt
      obtain ⟨b, off, rfl, hbl, c0⟩ := (hd.ext hb).at1 hk1 rfl
      have hc := hp wr l[k] (List.getElem_mem _) hb
      have hz : (0 : Int) ≤ k := by omega
      cases hq : p l[k]
      · rw [hq] at hc
        have Hq := Lib.hid hq
        have Hc := Lib.hid hc
        clear hc hq hp
        go_wp2_with fail
        refine Hc.out.mono ?_; rintro e w1 ⟨rfl, hb1⟩
        go_wp2
        go_roundw
        case rel => exact ⟨k + 1, by omega, by go_num, Lib.hid (fun x hx => by
          rw [List.take_succ_eq_append_getElem hk1] at hx
          rcases List.mem_append.1 hx with hx | hx
          · exact Hk.out x hx
          · simp at hx; rw [hx]; exact Hq.out), ext_trans hb hb1⟩
        case measure => simp [intOf]; omega
      · rw [hq] at hc
        have Hq := Lib.hid hq
        have Hc := Lib.hid hc
        clear hc hq hp
        go_wp2_with fail
        refine Hc.out.mono ?_; rintro e w1 ⟨rfl, hb1⟩
        go_wp2
        go_ret
        exact ⟨ret_congr (int_congr (by rw [← Hres.out, idxF_hit hk1 Hq.out Hk.out])), ext_trans hb hb1⟩
    · go_wp2
      go_ret
      exact ⟨ret_congr (int_congr (by rw [← Hres.out, idxF_miss (fun x hx => Hk.out x (by rw [List.take_of_length_le (by rw [Hn.out]; omega)]; exact hx))])), hb⟩

theorem contains_int (g : Nat) (fa lb : Array Value) (p : (Int) → Bool) (A : Option Addr) (n cap : Nat) (l : List (Int)) (w : World) (eg : Enters Tryz.prog g) (hn : l.length = n) (hm : n ≤ 9223372036854775807) (hd : Cells w A 1 encI l)
    (hp : PredF Tryz.prog g fa lb (Value.int .i64) p w l) :
    Calls Tryz.prog 59 #[.slice A n cap, .func (.func g) fa lb] w fun e w' => e = .returned (.bool (l.any p)) ∧ Below w.heap.size w w' := by
  have hc := index_int g fa lb p A n cap l w eg hn hm hd hp
  rw [← idxF_nonneg]
  generalize idxF p l = x at *
  have Hc := Lib.hid hc
  clear hc hp hn hd eg
  go_enter Tryz.func59, Tryz.ntmps59
  go_wp2_with fail
  refine Hc.out.mono ?_; rintro e w1 ⟨rfl, hb1⟩
  go_wp2
  go_ret
  exact ⟨rfl, hb1⟩

theorem not_int (g : Nat) (fa lb : Array Value) (p : (Int) → Bool) (l : List (Int)) (w : World) (B : Nat) (eg : Enters Tryz.prog g) (hB : w.cell? ⟨B, 0, none⟩ = some (.func (.func g) fa lb))
    (hp : PredF Tryz.prog g fa lb (Value.int .i64) p w l) : PredF Tryz.prog 89 #[] #[.pointer (some ⟨B, 0, none⟩)] (Value.int .i64) (fun x => !p x) w l := by
  intro W x hx hb
  have hB' := cell_ext hB hb
  have hlt := cell_lt hB'
  unfold Enters at eg
  have hc := hp W x hx hb
  show Calls Tryz.prog 89 #[.int .i64 x, .pointer (some ⟨B, 0, none⟩)] W fun e w' => e = .returned (.bool (!p x)) ∧ Below W.heap.size W w'
  generalize p x = q at *
  have Hc := Lib.hid hc
  clear hc hp hB
  go_enter Tryz.func89, Tryz.ntmps89
  go_wp2_with fail
  refine Hc.out.mono ?_; rintro e w1 ⟨rfl, hb1⟩
  go_wp2
  go_ret
  exact ⟨rfl, hb1⟩

theorem all_int (g : Nat) (fa lb : Array Value) (p : (Int) → Bool) (A : Option Addr) (n cap : Nat) (l : List (Int)) (w : World) (eg : Enters Tryz.prog g) (hn : l.length = n) (hm : n ≤ 9223372036854775807) (hd : Cells w A 1 encI l)
    (hp : PredF Tryz.prog g fa lb (Value.int .i64) p w l) :
    Calls Tryz.prog 69 #[.slice A n cap, .func (.func g) fa lb] w fun e w' => e = .returned (.bool (l.all p)) ∧ Below w.heap.size w w' := by
  have hb0 := ext_alloc w (.cells #[.func (.func g) fa lb] 81)
  have hc := contains_int 89 #[] #[.pointer (some ⟨w.heap.size, 0, none⟩)] (fun x => !p x) A n cap l _ (enters_of Tryz.func89 (by kernel_rfl) rfl) hn hm (hd.ext hb0) (not_int g fa lb p l _ w.heap.size eg (by simp) (hp.later hb0))
  rw [← any_not]
  generalize (l.any fun x => !p x) = q at *
  have Hc := Lib.hid hc
  clear hc hp hn hd eg hb0
  go_enter Tryz.func69, Tryz.ntmps69
  go_wp2_with fail
  refine Hc.out.mono ?_; rintro e w1 ⟨rfl, hb1⟩
  go_wp2
  go_ret
  exact ⟨rfl, ext_trans (ext_alloc _ _) hb1⟩

set_option maxHeartbeats 800000 in
theorem index_act (g : Nat) (fa lb : Array Value) (p : (AcV) → Bool) (A : Option Addr) (n cap : Nat) (l : List (AcV)) (w : World) (eg : Enters Tryz.prog g) (hn : l.length = n) (hm : n ≤ 9223372036854775807) (hd : Cells w A 5 AcV.enc l)
    (hp : PredF Tryz.prog g fa lb AcV.val p w l) :
    Calls Tryz.prog 100 #[.slice A n cap, .func (.func g) fa lb] w fun e w' => e = .returned (.int .i64 (idxF p l)) ∧ Below w.heap.size w w' := by
  have Hn := Lib.hid hn
  clear hn
  generalize hres : idxF p l = res
  have Hres := Lib.hid hres
  clear hres
  unfold Enters at eg
  go_enter Tryz.func100, Tryz.ntmps100
  go_wp2
  go_loopw [5, 8] (fun _ t wr => ∃ (k : Nat), k ≤ n ∧ t = .int .i64 k ∧ Hid (∀ x ∈ l.take k, p x = false) ∧ Below w.heap.size w wr) (fun _ t _ => n - (intOf t).toNat)
  case atStart => exact ⟨0, by omega, rfl, Lib.hid (by simp), Below.refl _ _⟩
  case round =>
    obtain ⟨k, hk, rfl, Hk, hb⟩ := hrel
    by_cases hlt : k < n
    · have hk1 : k < l.length := by rw [Hn.out]; exact hlt
      obtain ⟨b, off, rfl, hbl, c0, c1, c2, c3, c4⟩ := (hd.ext hb).at5 hk1 rfl
      have hc := hp wr l[k] (List.getElem_mem _) hb
      have hz : (0 : Int) ≤ k := by omega
      cases hq : p l[k]
      · rw [hq] at hc
        have Hq := Lib.hid hq
        have Hc := Lib.hid hc
        clear hc hq hp
        go_wp2_with fail
        refine Hc.out.mono ?_; rintro e w1 ⟨rfl, hb1⟩
        go_wp2
        go_roundw
        case rel => exact ⟨k + 1, by omega, by go_num, Lib.hid (fun x hx => by
          rw [List.take_succ_eq_append_getElem hk1] at hx
          rcases List.mem_append.1 hx with hx | hx
          · exact Hk.out x hx
          · simp at hx; rw [hx]; exact Hq.out), ext_trans hb hb1⟩
        case measure => simp [intOf]; omega
      · rw [hq] at hc
        have Hq := Lib.hid hq
        have Hc := Lib.hid hc
        clear hc hq hp
        go_wp2_with fail
        refine Hc.out.mono ?_; rintro e w1 ⟨rfl, hb1⟩
        go_wp2
        go_ret
        exact ⟨ret_congr (int_congr (by rw [← Hres.out, idxF_hit hk1 Hq.out Hk.out])), ext_trans hb hb1⟩
    · go_wp2
      go_ret
      exact ⟨ret_congr (int_congr (by rw [← Hres.out, idxF_miss (fun x hx => Hk.out x (by rw [List.take_of_length_le (by rw [Hn.out]; omega)]; exact hx))])), hb⟩

theorem contains_act (g : Nat) (fa lb : Array Value) (p : (AcV) → Bool) (A : Option Addr) (n cap : Nat) (l : List (AcV)) (w : World) (eg : Enters Tryz.prog g) (hn : l.length = n) (hm : n ≤ 9223372036854775807) (hd : Cells w A 5 AcV.enc l)
    (hp : PredF Tryz.prog g fa lb AcV.val p w l) :
    Calls Tryz.prog 90 #[.slice A n cap, .func (.func g) fa lb] w fun e w' => e = .returned (.bool (l.any p)) ∧ Below w.heap.size w w' := by
  have hc := index_act g fa lb p A n cap l w eg hn hm hd hp
  rw [← idxF_nonneg]
  generalize idxF p l = x at *
  have Hc := Lib.hid hc
  clear hc hp hn hd eg
  go_enter Tryz.func90, Tryz.ntmps90
  go_wp2_with fail
  refine Hc.out.mono ?_; rintro e w1 ⟨rfl, hb1⟩
  go_wp2
  go_ret
  exact ⟨rfl, hb1⟩

theorem not_act (g : Nat) (fa lb : Array Value) (p : (AcV) → Bool) (l : List (AcV)) (w : World) (B : Nat) (eg : Enters Tryz.prog g) (hB : w.cell? ⟨B, 0, none⟩ = some (.func (.func g) fa lb))
    (hp : PredF Tryz.prog g fa lb AcV.val p w l) : PredF Tryz.prog 91 #[] #[.pointer (some ⟨B, 0, none⟩)] AcV.val (fun x => !p x) w l := by
  intro W x hx hb
  have hB' := cell_ext hB hb
  have hlt := cell_lt hB'
  unfold Enters at eg
  have hc := hp _ x hx (ext_trans hb (ext_alloc W (.cells #[.int .i64 x.a.min, .int .i64 x.a.ten, .int .u16 x.a.rigs, .slice x.C x.a.casts.length x.c, .bool x.a.spare] 64)))
  show Calls Tryz.prog 91 #[.agg #[.int .i64 x.a.min, .int .i64 x.a.ten, .int .u16 x.a.rigs, .slice x.C x.a.casts.length x.c, .bool x.a.spare], .pointer (some ⟨B, 0, none⟩)] W fun e w' => e = .returned (.bool (!p x)) ∧ Below W.heap.size W w'
  generalize p x = q at *
  have Hc := Lib.hid hc
  clear hc hp hB
  go_enter Tryz.func91, Tryz.ntmps91
  go_wp2_with fail
  refine Hc.out.mono ?_; rintro e w1 ⟨rfl, hb1⟩
  go_wp2
  go_ret
  exact ⟨rfl, ext_trans (ext_alloc _ _) hb1⟩

theorem all_act (g : Nat) (fa lb : Array Value) (p : (AcV) → Bool) (A : Option Addr) (n cap : Nat) (l : List (AcV)) (w : World) (eg : Enters Tryz.prog g) (hn : l.length = n) (hm : n ≤ 9223372036854775807) (hd : Cells w A 5 AcV.enc l)
    (hp : PredF Tryz.prog g fa lb AcV.val p w l) :
    Calls Tryz.prog 72 #[.slice A n cap, .func (.func g) fa lb] w fun e w' => e = .returned (.bool (l.all p)) ∧ Below w.heap.size w w' := by
  have hb0 := ext_alloc w (.cells #[.func (.func g) fa lb] 125)
  have hc := contains_act 91 #[] #[.pointer (some ⟨w.heap.size, 0, none⟩)] (fun x => !p x) A n cap l _ (enters_of Tryz.func91 (by kernel_rfl) rfl) hn hm (hd.ext hb0) (not_act g fa lb p l _ w.heap.size eg (by simp) (hp.later hb0))
  rw [← any_not]
  generalize (l.any fun x => !p x) = q at *
  have Hc := Lib.hid hc
  clear hc hp hn hd eg hb0
  go_enter Tryz.func72, Tryz.ntmps72
  go_wp2_with fail
  refine Hc.out.mono ?_; rintro e w1 ⟨rfl, hb1⟩
  go_wp2
  go_ret
  exact ⟨rfl, ext_trans (ext_alloc _ _) hb1⟩

set_option maxHeartbeats 800000 in
theorem index_pr (g : Nat) (fa lb : Array Value) (p : (Int × Int) → Bool) (A : Option Addr) (n cap : Nat) (l : List (Int × Int)) (w : World) (eg : Enters Tryz.prog g) (hn : l.length = n) (hm : n ≤ 9223372036854775807) (hd : Cells w A 2 encP l)
    (hp : PredF Tryz.prog g fa lb valP p w l) :
    Calls Tryz.prog 98 #[.slice A n cap, .func (.func g) fa lb] w fun e w' => e = .returned (.int .i64 (idxF p l)) ∧ Below w.heap.size w w' := by
  have Hn := Lib.hid hn
  clear hn
  generalize hres : idxF p l = res
  have Hres := Lib.hid hres
  clear hres
  unfold Enters at eg
  go_enter Tryz.func98, Tryz.ntmps98
  go_wp2
  go_loopw [5, 8] (fun _ t wr => ∃ (k : Nat), k ≤ n ∧ t = .int .i64 k ∧ Hid (∀ x ∈ l.take k, p x = false) ∧ Below w.heap.size w wr) (fun _ t _ => n - (intOf t).toNat)
  case atStart => exact ⟨0, by omega, rfl, Lib.hid (by simp), Below.refl _ _⟩
  case round =>
    obtain ⟨k, hk, rfl, Hk, hb⟩ := hrel
    by_cases hlt : k < n
    · have hk1 : k < l.length := by rw [Hn.out]; exact hlt
      obtain ⟨b, off, rfl, hbl, c0, c1⟩ := (hd.ext hb).at2 hk1 rfl
      have hc := hp wr l[k] (List.getElem_mem _) hb
      have hz : (0 : Int) ≤ k := by omega
      cases hq : p l[k]
      · rw [hq] at hc
        have Hq := Lib.hid hq
        have Hc := Lib.hid hc
        clear hc hq hp
        go_wp2_with fail
        refine Hc.out.mono ?_; rintro e w1 ⟨rfl, hb1⟩
        go_wp2
        go_roundw
        case rel => exact ⟨k + 1, by omega, by go_num, Lib.hid (fun x hx => by
          rw [List.take_succ_eq_append_getElem hk1] at hx
          rcases List.mem_append.1 hx with hx | hx
          · exact Hk.out x hx
          · simp at hx; rw [hx]; exact Hq.out), ext_trans hb hb1⟩
        case measure => simp [intOf]; omega
      · rw [hq] at hc
        have Hq := Lib.hid hq
        have Hc := Lib.hid hc
        clear hc hq hp
        go_wp2_with fail
        refine Hc.out.mono ?_; rintro e w1 ⟨rfl, hb1⟩
        go_wp2
        go_ret
        exact ⟨ret_congr (int_congr (by rw [← Hres.out, idxF_hit hk1 Hq.out Hk.out])), ext_trans hb hb1⟩
    · go_wp2
      go_ret
      exact ⟨ret_congr (int_congr (by rw [← Hres.out, idxF_miss (fun x hx => Hk.out x (by rw [List.take_of_length_le (by rw [Hn.out]; omega)]; exact hx))])), hb⟩

theorem contains_pr (g : Nat) (fa lb : Array Value) (p : (Int × Int) → Bool) (A : Option Addr) (n cap : Nat) (l : List (Int × Int)) (w : World) (eg : Enters Tryz.prog g) (hn : l.length = n) (hm : n ≤ 9223372036854775807) (hd : Cells w A 2 encP l)
    (hp : PredF Tryz.prog g fa lb valP p w l) :
    Calls Tryz.prog 80 #[.slice A n cap, .func (.func g) fa lb] w fun e w' => e = .returned (.bool (l.any p)) ∧ Below w.heap.size w w' := by
  have hc := index_pr g fa lb p A n cap l w eg hn hm hd hp
  rw [← idxF_nonneg]
  generalize idxF p l = x at *
  have Hc := Lib.hid hc
  clear hc hp hn hd eg
  go_enter Tryz.func80, Tryz.ntmps80
  go_wp2_with fail
  refine Hc.out.mono ?_; rintro e w1 ⟨rfl, hb1⟩
  go_wp2
  go_ret
  exact ⟨rfl, hb1⟩

theorem not_pr (g : Nat) (fa lb : Array Value) (p : (Int × Int) → Bool) (l : List (Int × Int)) (w : World) (B : Nat) (eg : Enters Tryz.prog g) (hB : w.cell? ⟨B, 0, none⟩ = some (.func (.func g) fa lb))
    (hp : PredF Tryz.prog g fa lb valP p w l) : PredF Tryz.prog 95 #[] #[.pointer (some ⟨B, 0, none⟩)] valP (fun x => !p x) w l := by
  intro W x hx hb
  have hB' := cell_ext hB hb
  have hlt := cell_lt hB'
  unfold Enters at eg
  have hc := hp _ x hx (ext_trans hb (ext_alloc W (.cells #[.int .i64 x.1, .int .i64 x.2] 52)))
  show Calls Tryz.prog 95 #[.agg #[.int .i64 x.1, .int .i64 x.2], .pointer (some ⟨B, 0, none⟩)] W fun e w' => e = .returned (.bool (!p x)) ∧ Below W.heap.size W w'
  generalize p x = q at *
  have Hc := Lib.hid hc
  clear hc hp hB
  go_enter Tryz.func95, Tryz.ntmps95
  go_wp2_with fail
  refine Hc.out.mono ?_; rintro e w1 ⟨rfl, hb1⟩
  go_wp2
  go_ret
  exact ⟨rfl, ext_trans (ext_alloc _ _) hb1⟩

theorem all_pr (g : Nat) (fa lb : Array Value) (p : (Int × Int) → Bool) (A : Option Addr) (n cap : Nat) (l : List (Int × Int)) (w : World) (eg : Enters Tryz.prog g) (hn : l.length = n) (hm : n ≤ 9223372036854775807) (hd : Cells w A 2 encP l)
    (hp : PredF Tryz.prog g fa lb valP p w l) :
    Calls Tryz.prog 74 #[.slice A n cap, .func (.func g) fa lb] w fun e w' => e = .returned (.bool (l.all p)) ∧ Below w.heap.size w w' := by
  have hb0 := ext_alloc w (.cells #[.func (.func g) fa lb] 127)
  have hc := contains_pr 95 #[] #[.pointer (some ⟨w.heap.size, 0, none⟩)] (fun x => !p x) A n cap l _ (enters_of Tryz.func95 (by kernel_rfl) rfl) hn hm (hd.ext hb0) (not_pr g fa lb p l _ w.heap.size eg (by simp) (hp.later hb0))
  rw [← any_not]
  generalize (l.any fun x => !p x) = q at *
  have Hc := Lib.hid hc
  clear hc hp hn hd eg hb0
  go_enter Tryz.func74, Tryz.ntmps74
  go_wp2_with fail
  refine Hc.out.mono ?_; rintro e w1 ⟨rfl, hb1⟩
  go_wp2
  go_ret
  exact ⟨rfl, ext_trans (ext_alloc _ _) hb1⟩

set_option maxHeartbeats 800000 in
theorem index_u16 (g : Nat) (fa lb : Array Value) (p : (Nat) → Bool) (A : Option Addr) (n cap : Nat) (l : List (Nat)) (w : World) (eg : Enters Tryz.prog g) (hn : l.length = n) (hm : n ≤ 9223372036854775807) (hd : Cells w A 1 encU l)
    (hp : PredF Tryz.prog g fa lb valU p w l) :
    Calls Tryz.prog 114 #[.slice A n cap, .func (.func g) fa lb] w fun e w' => e = .returned (.int .i64 (idxF p l)) ∧ Below w.heap.size w w' := by
  have Hn := Lib.hid hn
  clear hn
  generalize hres : idxF p l = res
  have Hres := Lib.hid hres
  clear hres
  unfold Enters at eg
  go_enter Tryz.func114, Tryz.ntmps114
  go_wp2
  go_loopw [5, 8] (fun _ t wr => ∃ (k : Nat), k ≤ n ∧ t = .int .i64 k ∧ Hid (∀ x ∈ l.take k, p x = false) ∧ Below w.heap.size w wr) (fun _ t _ => n - (intOf t).toNat)
  case atStart => exact ⟨0, by omega, rfl, Lib.hid (by simp), Below.refl _ _⟩
  case round =>
    obtain ⟨k, hk, rfl, Hk, hb⟩ := hrel
    by_cases hlt : k < n
    · have hk1 : k < l.length := by rw [Hn.out]; exact hlt
      obtain ⟨b, off, rfl, hbl, c0⟩ := (hd.ext hb).at1 hk1 rfl
      have hc := hp wr l[k] (List.getElem_mem _) hb
      have hz : (0 : Int) ≤ k := by omega
      cases hq : p l[k]
      · rw [hq] at hc
        have Hq := Lib.hid hq
        have Hc := Lib.hid hc
        clear hc hq hp
        go_wp2_with fail
        refine Hc.out.mono ?_; rintro e w1 ⟨rfl, hb1⟩
        go_wp2
        go_roundw
        case rel => exact ⟨k + 1, by omega, by go_num, Lib.hid (fun x hx => by
          rw [List.take_succ_eq_append_getElem hk1] at hx
          rcases List.mem_append.1 hx with hx | hx
          · exact Hk.out x hx
          · simp at hx; rw [hx]; exact Hq.out), ext_trans hb hb1⟩
        case measure => simp [intOf]; omega
      · rw [hq] at hc
        have Hq := Lib.hid hq
        have Hc := Lib.hid hc
        clear hc hq hp
        go_wp2_with fail
        refine Hc.out.mono ?_; rintro e w1 ⟨rfl, hb1⟩
        go_wp2
        go_ret
        exact ⟨ret_congr (int_congr (by rw [← Hres.out, idxF_hit hk1 Hq.out Hk.out])), ext_trans hb hb1⟩
    · go_wp2
      go_ret
      exact ⟨ret_congr (int_congr (by rw [← Hres.out, idxF_miss (fun x hx => Hk.out x (by rw [List.take_of_length_le (by rw [Hn.out]; omega)]; exact hx))])), hb⟩

theorem contains_u16 (g : Nat) (fa lb : Array Value) (p : (Nat) → Bool) (A : Option Addr) (n cap : Nat) (l : List (Nat)) (w : World) (eg : Enters Tryz.prog g) (hn : l.length = n) (hm : n ≤ 9223372036854775807) (hd : Cells w A 1 encU l)
    (hp : PredF Tryz.prog g fa lb valU p w l) :
    Calls Tryz.prog 101 #[.slice A n cap, .func (.func g) fa lb] w fun e w' => e = .returned (.bool (l.any p)) ∧ Below w.heap.size w w' := by
  have hc := index_u16 g fa lb p A n cap l w eg hn hm hd hp
  rw [← idxF_nonneg]
  generalize idxF p l = x at *
  have Hc := Lib.hid hc
  clear hc hp hn hd eg
  go_enter Tryz.func101, Tryz.ntmps101
  go_wp2_with fail
  refine Hc.out.mono ?_; rintro e w1 ⟨rfl, hb1⟩
  go_wp2
  go_ret
  exact ⟨rfl, hb1⟩

theorem not_u16 (g : Nat) (fa lb : Array Value) (p : (Nat) → Bool) (l : List (Nat)) (w : World) (B : Nat) (eg : Enters Tryz.prog g) (hB : w.cell? ⟨B, 0, none⟩ = some (.func (.func g) fa lb))
    (hp : PredF Tryz.prog g fa lb valU p w l) : PredF Tryz.prog 102 #[] #[.pointer (some ⟨B, 0, none⟩)] valU (fun x => !p x) w l := by
  intro W x hx hb
  have hB' := cell_ext hB hb
  have hlt := cell_lt hB'
  unfold Enters at eg
  have hc := hp W x hx hb
  show Calls Tryz.prog 102 #[.int .u16 (x : Int), .pointer (some ⟨B, 0, none⟩)] W fun e w' => e = .returned (.bool (!p x)) ∧ Below W.heap.size W w'
  generalize p x = q at *
  have Hc := Lib.hid hc
  clear hc hp hB
  go_enter Tryz.func102, Tryz.ntmps102
  go_wp2_with fail
  refine Hc.out.mono ?_; rintro e w1 ⟨rfl, hb1⟩
  go_wp2
  go_ret
  exact ⟨rfl, hb1⟩

theorem all_u16 (g : Nat) (fa lb : Array Value) (p : (Nat) → Bool) (A : Option Addr) (n cap : Nat) (l : List (Nat)) (w : World) (eg : Enters Tryz.prog g) (hn : l.length = n) (hm : n ≤ 9223372036854775807) (hd : Cells w A 1 encU l)
    (hp : PredF Tryz.prog g fa lb valU p w l) :
    Calls Tryz.prog 93 #[.slice A n cap, .func (.func g) fa lb] w fun e w' => e = .returned (.bool (l.all p)) ∧ Below w.heap.size w w' := by
  have hb0 := ext_alloc w (.cells #[.func (.func g) fa lb] 142)
  have hc := contains_u16 102 #[] #[.pointer (some ⟨w.heap.size, 0, none⟩)] (fun x => !p x) A n cap l _ (enters_of Tryz.func102 (by kernel_rfl) rfl) hn hm (hd.ext hb0) (not_u16 g fa lb p l _ w.heap.size eg (by simp) (hp.later hb0))
  rw [← any_not]
  generalize (l.any fun x => !p x) = q at *
  have Hc := Lib.hid hc
  clear hc hp hn hd eg hb0
  go_enter Tryz.func93, Tryz.ntmps93
  go_wp2_with fail
  refine Hc.out.mono ?_; rintro e w1 ⟨rfl, hb1⟩
  go_wp2
  go_ret
  exact ⟨rfl, ext_trans (ext_alloc _ _) hb1⟩

end Go.Proofs.YtilkoooahoecfaaGreat

/- Walk: is a show valid? -/
namespace Go.Proofs.YtilkoooahoecfaaGreat
open Go.RowKit Go.Bs Go.Pg Go.Pl Go.Sort

theorem v1_ok (l : List Int) (w : World) : PredF Tryz.prog 67 #[] #[] (Value.int .i64) (fun n => btw n 0 30) w l := by
  intro W x hx hb
  have C1 := Lib.hid (fun W => within_any x 0 30 W)
  show Calls Tryz.prog 67 #[.int .i64 x] W fun e w' => e = .returned (.bool (btw x 0 30)) ∧ Below W.heap.size W w'
  generalize btw x 0 30 = b1 at *
  clear hx hb
  go_enter Tryz.func67, Tryz.ntmps67
  go_wp2_with fail
  refine (C1.out _).mono ?_; rintro e w1 ⟨rfl, rfl⟩
  go_wp2
  go_ret
  exact ⟨rfl, Below.refl _ _⟩
theorem v2_ok (l : List Int) (w : World) : PredF Tryz.prog 70 #[] #[] (Value.int .i64) (fun n => btw n 0 2) w l := by
  intro W x hx hb
  have C1 := Lib.hid (fun W => within_any x 0 2 W)
  show Calls Tryz.prog 70 #[.int .i64 x] W fun e w' => e = .returned (.bool (btw x 0 2)) ∧ Below W.heap.size W w'
  generalize btw x 0 2 = b1 at *
  clear hx hb
  go_enter Tryz.func70, Tryz.ntmps70
  go_wp2_with fail
  refine (C1.out _).mono ?_; rintro e w1 ⟨rfl, rfl⟩
  go_wp2
  go_ret
  exact ⟨rfl, Below.refl _ _⟩
theorem v3_any (x : Int) (B : Nat) (A : Option Addr) (n c : Nat) (W : World) (hn : n ≤ 1000) (hX : W.cell? ⟨B, 0, none⟩ = some (.slice A n c)) :
    Calls Tryz.prog 71 #[.int .i64 x, .pointer (some ⟨B, 0, none⟩)] W fun e w' => e = .returned (.bool (btw x 0 (n - 1))) ∧ W = w' := by
  have C1 := Lib.hid (fun W => within_any x 0 (n - 1) W)
  generalize btw x 0 (n - 1) = b1 at *
  go_enter Tryz.func71, Tryz.ntmps71
  go_wp2_with fail
  refine (C1.out _).mono ?_; rintro e w1 ⟨rfl, rfl⟩
  go_wp2
  go_ret
  exact ⟨rfl, rfl⟩
theorem v4_ok (B O : Nat) (A : Option Addr) (n c : Nat) (l : List (Int × Int)) (w : World) (hn : n ≤ 1000) (hX : w.cell? ⟨B, 0, none⟩ = some (.slice A n c)) (hO : w.cell? ⟨O, 0, none⟩ = some (.func (.func 71) #[] #[.pointer (some ⟨B, 0, none⟩)])) :
    PredF Tryz.prog 75 #[] #[.pointer (some ⟨O, 0, none⟩)] valP (fun p => btw p.1 0 (n - 1) && btw p.2 0 (n - 1) && decide (p.1 ≠ p.2)) w l := by
  intro W x hx hb
  obtain ⟨x0, x1⟩ := x
  have hb0 := ext_alloc W (.cells #[.int .i64 x0, .int .i64 x1] 52)
  have hP := Blk.new W 52 [.int .i64 x0, .int .i64 x1]
  have hX1 := cell_ext (cell_ext hX hb) hb0
  have hO1 := cell_ext (cell_ext hO hb) hb0
  have C1 := Lib.hid (v3_any x0 B A n c _ hn hX1)
  have C2 := Lib.hid (v3_any x1 B A n c _ hn hX1)
  show Calls Tryz.prog 75 #[.agg #[.int .i64 x0, .int .i64 x1], .pointer (some ⟨O, 0, none⟩)] W fun e w' => e = .returned (.bool (btw x0 0 (n - 1) && btw x1 0 (n - 1) && decide (x0 ≠ x1))) ∧ Below W.heap.size W w'
  generalize btw x0 0 (n - 1) = b1 at *
  generalize btw x1 0 (n - 1) = b2 at *
  clear hx hb hX hO hX1
  go_enter Tryz.func75, Tryz.ntmps75
  go_upto_region 1 with fail
  change Blk (W.alloc (.cells #[.int .i64 x0, .int .i64 x1] 52)) _ _ _ at hP
  generalize W.alloc (.cells #[.int .i64 x0, .int .i64 x1] 52) = W0 at *
  have c0 : W0.cell? ⟨W.heap.size, 0, none⟩ = _ := hP.cell rfl
  have c1 : W0.cell? ⟨W.heap.size, 1, none⟩ = _ := hP.cell rfl
  go_wp2_with fail
  refine C1.out.mono ?_; rintro e w1 ⟨rfl, rfl⟩
  cases b1
  · go_wp2
    go_ret
    exact ⟨rfl, hb0⟩
  go_wp2_with fail
  refine C2.out.mono ?_; rintro e w1 ⟨rfl, rfl⟩
  cases b2
  · go_wp2
    go_ret
    exact ⟨rfl, hb0⟩
  by_cases h : x0 = x1
  · go_wp2
    go_ret
    exact ⟨by simp [h], hb0⟩
  · go_wp2
    go_ret
    exact ⟨by simp [h], hb0⟩
theorem st1_ok (B : Nat) (A : Option Addr) (n c : Nat) (l : List Nat) (w : World) (hn : n ≤ 1000) (hl : ∀ x ∈ l, x < 65536) (hX : w.cell? ⟨B, 1, none⟩ = some (.slice A n c)) :
    PredF Tryz.prog 94 #[] #[.pointer (some ⟨B, 0, none⟩)] valU (fun x => fitsB x n) w l := by
  intro W x hx hb
  have hX1 := cell_ext hX hb
  have C1 := Lib.hid (fits_any x n W (hl x hx) hn)
  show Calls Tryz.prog 94 #[.int .u16 x, .pointer (some ⟨B, 0, none⟩)] W fun e w' => e = .returned (.bool (fitsB x n)) ∧ Below W.heap.size W w'
  generalize fitsB x n = b1 at *
  clear hx hb hX hl
  go_enter Tryz.func94, Tryz.ntmps94
  go_wp2_with fail
  refine C1.out.mono ?_; rintro e w1 ⟨rfl, rfl⟩
  go_wp2
  go_ret
  exact ⟨rfl, Below.refl _ _⟩
set_option maxHeartbeats 1000000 in
theorem staged_any (s : Sh) (p : ShP) (x : AcV) (w : World) (hr : s.rest.length ≤ 1000) (hi : s.ins.length ≤ 1000) (hx : x.a.rigs < 65536 ∧ x.a.casts.length ≤ 1000 ∧ ∀ c ∈ x.a.casts, c < 65536) (hC : Cells w x.C 1 encU x.a.casts) :
    Calls Tryz.prog 73 #[shV s p, AcV.val x] w fun e w' => e = .returned (.bool (s.staged x.a)) ∧ Below w.heap.size w w' := by
  obtain ⟨⟨mn, tn, rg, cs, sp⟩, C, c⟩ := x
  obtain ⟨hrg, hcl, hcs⟩ := hx
  simp only at hrg hcl hcs hC
  unfold shV AcV.val Sh.staged
  simp only
  have hb0 := ext_alloc w (.cells (shC s p).toArray 36)
  have hX := Blk.new w 36 (shC s p)
  have hs0 : (w.alloc (.cells (shC s p).toArray 36)).heap.size = w.heap.size + 1 := by simp
  have hb1 := ext_alloc (w.alloc (.cells (shC s p).toArray 36)) (.cells #[.int .i64 mn, .int .i64 tn, .int .u16 rg, .slice C cs.length c, .bool sp] 64)
  have hY := Blk.new (w.alloc (.cells (shC s p).toArray 36)) 64 [.int .i64 mn, .int .i64 tn, .int .u16 rg, .slice C cs.length c, .bool sp]
  have hX1 := hX.ext hb1
  have hbw : Below w.heap.size w _ := hb0.trans (hb1.mono (by omega))
  have hC1 := (hC.ext hb0).ext hb1
  have C1 := Lib.hid (fun W => within_any mn 1 60 W)
  have C2 := Lib.hid (fun W => within_any tn 0 100 W)
  have C3 := Lib.hid (fun W => fits_any rg s.ins.length W hrg hi)
  have C4 := Lib.hid (fun W => within_any cs.length 1 4 W)
  have C5 := Lib.hid (all_u16 94 #[] #[.pointer (some ⟨w.heap.size, 0, none⟩)] (fun x => fitsB x s.rest.length) C cs.length c cs _ (enters_of Tryz.func94 (by kernel_rfl) rfl) rfl (by omega) hC1 (st1_ok w.heap.size p.R s.rest.length p.cR cs _ hr hcs (hX1.cell rfl)))
  rw [hs0] at hY
  unfold shC at *
  generalize btw mn 1 60 = b1 at *
  generalize btw tn 0 100 = b2 at *
  generalize fitsB rg s.ins.length = b3 at *
  generalize btw cs.length 1 4 = b4 at *
  generalize (cs.all fun c => fitsB c s.rest.length) = b5 at *
  clear hX hb0 hb1 hC hC1 hcs hrg hr hi hs0
  go_enter Tryz.func73, Tryz.ntmps73
  go_upto_region 1 with fail
  change Blk ((w.alloc (.cells #[.slice p.A s.acts.length p.cA, .slice p.R s.rest.length p.cR, .slice p.I s.ins.length p.cI, .slice p.O s.outs.length p.cO, .int .i64 s.cover, .int .i64 s.dull, .slice p.B s.before.length p.cB] 36)).alloc (.cells #[.int .i64 mn, .int .i64 tn, .int .u16 rg, .slice C cs.length c, .bool sp] 64)) _ _ _ at hY
  generalize (w.alloc (.cells #[.slice p.A s.acts.length p.cA, .slice p.R s.rest.length p.cR, .slice p.I s.ins.length p.cI, .slice p.O s.outs.length p.cO, .int .i64 s.cover, .int .i64 s.dull, .slice p.B s.before.length p.cB] 36)).alloc (.cells #[.int .i64 mn, .int .i64 tn, .int .u16 rg, .slice C cs.length c, .bool sp] 64) = W0 at *
  have y0 : W0.cell? ⟨w.heap.size + 1, 0, none⟩ = _ := hY.cell rfl
  have y1 : W0.cell? ⟨w.heap.size + 1, 1, none⟩ = _ := hY.cell rfl
  have y2 : W0.cell? ⟨w.heap.size + 1, 2, none⟩ = _ := hY.cell rfl
  have y3 : W0.cell? ⟨w.heap.size + 1, 3, none⟩ = _ := hY.cell rfl
  have x2 : W0.cell? ⟨w.heap.size, 2, none⟩ = _ := hX1.cell rfl
  go_wp2_with fail
  refine (C1.out _).mono ?_; rintro e w1 ⟨rfl, rfl⟩
  cases b1
  · go_wp2
    go_ret
    exact ⟨rfl, hbw⟩
  go_wp2_with fail
  refine (C2.out _).mono ?_; rintro e w1 ⟨rfl, rfl⟩
  cases b2
  · go_wp2
    go_ret
    exact ⟨rfl, hbw⟩
  go_wp2_with fail
  refine (C3.out _).mono ?_; rintro e w1 ⟨rfl, rfl⟩
  cases b3
  · go_wp2
    go_ret
    exact ⟨rfl, hbw⟩
  go_wp2_with fail
  refine (C4.out _).mono ?_; rintro e w1 ⟨rfl, rfl⟩
  cases b4
  · go_wp2
    go_ret
    exact ⟨rfl, hbw⟩
  go_wp2_with fail
  refine C5.out.mono ?_; rintro e w1 ⟨rfl, hb1⟩
  go_wp2
  go_ret
  exact ⟨rfl, hbw.trans (hb1.mono hbw.size)⟩
end Go.Proofs.YtilkoooahoecfaaGreat

/- Walk: is a show valid? -/
namespace Go.Proofs.YtilkoooahoecfaaGreat
open Go.RowKit Go.Bs Go.Pg Go.Pl Go.Sort

set_option maxRecDepth 100000 in
set_option maxHeartbeats 4000000 in
theorem valid_any (s : Sh) (p : ShP) (w : World) (h : ShM w s p) :
    Calls Tryz.prog 50 #[shV s p] w fun e w' => e = .returned (.bool s.okB) ∧ Below w.heap.size w w' := by
  obtain ⟨m1, m2, m3, m4, m5⟩ := h.small
  have hb0 := ext_alloc w (.cells (shC s p).toArray 36)
  have hX := Blk.new w 36 (shC s p)
  have hs0 : (w.alloc (.cells (shC s p).toArray 36)).heap.size = w.heap.size + 1 := by simp
  have C1 := Lib.hid (fun W => within_any s.acts.length 1 8 W)
  have C3 := Lib.hid (fun W (hW : Below w.heap.size w W) => all_int 70 #[] #[] (fun n => btw n 0 2) p.R s.rest.length p.cR s.rest W (enters_of Tryz.func70 (by kernel_rfl) rfl) rfl (by omega) (h.rest.ext hW) (v2_ok s.rest W))
  have C6 := Lib.hid (fun W (hW : Below w.heap.size w W) => all_int 67 #[] #[] (fun n => btw n 0 30) p.I s.ins.length p.cI s.ins W (enters_of Tryz.func67 (by kernel_rfl) rfl) rfl (by omega) (h.ins.ext hW) (v1_ok s.ins W))
  have C7 := Lib.hid (fun W (hW : Below w.heap.size w W) => all_int 67 #[] #[] (fun n => btw n 0 30) p.O s.outs.length p.cO s.outs W (enters_of Tryz.func67 (by kernel_rfl) rfl) rfl (by omega) (h.outs.ext hW) (v1_ok s.outs W))
  have C8 := Lib.hid (fun W => within_any s.cover 0 60 W)
  have C9 := Lib.hid (fun W => within_any s.dull 0 10 W)
  have hall : (p.av.all fun x => s.staged x.a) = s.acts.all s.staged := by rw [← h.eq, List.all_map]; rfl
  have C11 := Lib.hid (fun W (hW : Below w.heap.size w W) => all_act 73 #[shV s p] #[] (fun x => s.staged x.a) p.A s.acts.length p.cA p.av W (enters_of Tryz.func73 (by kernel_rfl) rfl) h.len (by omega) (h.acts.ext hW) (fun W' x hx hW' =>
    staged_any s p x W' m2 m3 (by have := h.bits x.a (by rw [← h.eq]; exact List.mem_map_of_mem hx); exact this) ((h.casts x hx).ext (ext_trans hW hW'))))
  rw [hall] at C11
  have C12 := Lib.hid (fun W (hW : Below w.heap.size w W) (B O : Nat) (hX : W.cell? ⟨B, 0, none⟩ = some (.slice p.A s.acts.length p.cA)) (hO : W.cell? ⟨O, 0, none⟩ = some (.func (.func 71) #[] #[.pointer (some ⟨B, 0, none⟩)])) =>
    all_pr 75 #[] #[.pointer (some ⟨O, 0, none⟩)] (fun p => btw p.1 0 (s.acts.length - 1) && btw p.2 0 (s.acts.length - 1) && decide (p.1 ≠ p.2)) p.B s.before.length p.cB s.before W (enters_of Tryz.func75 (by kernel_rfl) rfl) rfl (by omega) (h.before.ext hW)
      (v4_ok B O p.A s.acts.length p.cA s.before W m1 hX hO))
  change Hid (∀ W, Below w.heap.size w W → ∀ B O : Nat, W.cell? ⟨B, 0, none⟩ = some (.slice p.A s.acts.length p.cA) → W.cell? ⟨O, 0, none⟩ = some (.func (.func 71) #[] #[.pointer (some ⟨B, 0, none⟩)]) → Calls Tryz.prog 74 #[.slice p.B s.before.length p.cB, .func (.func 75) #[] #[.pointer (some ⟨O, 0, none⟩)]] W fun e w' => e = .returned (.bool (s.before.all s.pairB)) ∧ Below W.heap.size W w') at C12
  unfold Sh.okB Sh.ok1 Sh.ok2
  unfold shV shC at *
  generalize btw s.acts.length 1 8 = b1 at *
  generalize (s.rest.all fun n => btw n 0 2) = b3 at *
  generalize (s.ins.all fun n => btw n 0 30) = b6 at *
  generalize (s.outs.all fun n => btw n 0 30) = b7 at *
  generalize btw s.cover 0 60 = b8 at *
  generalize btw s.dull 0 10 = b9 at *
  generalize s.acts.all s.staged = b11 at *
  generalize s.before.all s.pairB = b12 at *
  clear h hall
  generalize s.acts.length = nA at *
  generalize s.rest.length = nR at *
  generalize s.ins.length = nI at *
  generalize s.outs.length = nO at *
  generalize s.before.length = nB at *
  go_enter Tryz.func50, Tryz.ntmps50
  go_upto_region 2 with fail
  change Blk (w.alloc (.cells #[.slice p.A nA p.cA, .slice p.R nR p.cR, .slice p.I nI p.cI, .slice p.O nO p.cO, .int .i64 s.cover, .int .i64 s.dull, .slice p.B nB p.cB] 36)) _ _ _ at hX
  generalize w.alloc (.cells #[.slice p.A nA p.cA, .slice p.R nR p.cR, .slice p.I nI p.cI, .slice p.O nO p.cO, .int .i64 s.cover, .int .i64 s.dull, .slice p.B nB p.cB] 36) = W0 at *
  have x0 : W0.cell? ⟨w.heap.size, 0, none⟩ = _ := hX.cell rfl
  have x1 : W0.cell? ⟨w.heap.size, 1, none⟩ = _ := hX.cell rfl
  have x2 : W0.cell? ⟨w.heap.size, 2, none⟩ = _ := hX.cell rfl
  have x3 : W0.cell? ⟨w.heap.size, 3, none⟩ = _ := hX.cell rfl
  have x4 : W0.cell? ⟨w.heap.size, 4, none⟩ = _ := hX.cell rfl
  have x5 : W0.cell? ⟨w.heap.size, 5, none⟩ = _ := hX.cell rfl
  have x6 : W0.cell? ⟨w.heap.size, 6, none⟩ = _ := hX.cell rfl
  go_wp2_with fail
  refine (C1.out _).mono ?_; rintro e w1 ⟨rfl, rfl⟩
  cases b1
  · go_wp2
    go_ret
    exact ⟨rfl, hb0⟩
  by_cases d2 : nR ≤ 16
  case neg =>
    go_wp2
    go_ret
    exact ⟨ret_congr (bool_congr (by simp)), hb0⟩
  go_wp2_with fail
  refine (C3.out _ hb0).mono ?_; rintro e W1 ⟨rfl, hb1⟩
  have hX1 := hX.ext hb1
  have hw1 := hb0.trans (hb1.mono hb0.size)
  clear x0 x1 x2 x3 x4 x5 x6 hX
  have x2 : W1.cell? ⟨w.heap.size, 2, none⟩ = _ := hX1.cell rfl
  have x3 : W1.cell? ⟨w.heap.size, 3, none⟩ = _ := hX1.cell rfl
  cases b3
  · go_wp2
    go_ret
    exact ⟨ret_congr (bool_congr (by simp)), hw1⟩
  by_cases d4 : nI ≤ 10
  case neg =>
    go_wp2
    go_ret
    exact ⟨ret_congr (bool_congr (by simp)), hw1⟩
  by_cases d5 : nO = nI
  case neg =>
    have d5' : ((nO : Int) == nI) = false := by simp; omega
    go_wp2
    go_ret
    exact ⟨ret_congr (bool_congr (by simp [d5])), hw1⟩
  subst d5
  go_wp2_with fail
  refine (C6.out _ hw1).mono ?_; rintro e W2 ⟨rfl, hb2⟩
  have hX2 := hX1.ext hb2
  have hw2 := hw1.trans (hb2.mono hw1.size)
  clear x2 x3 hX1
  have x3 : W2.cell? ⟨w.heap.size, 3, none⟩ = _ := hX2.cell rfl
  have x4 : W2.cell? ⟨w.heap.size, 4, none⟩ = _ := hX2.cell rfl
  have x5 : W2.cell? ⟨w.heap.size, 5, none⟩ = _ := hX2.cell rfl
  have x6 : W2.cell? ⟨w.heap.size, 6, none⟩ = _ := hX2.cell rfl
  cases b6
  · go_wp2
    go_ret
    exact ⟨ret_congr (bool_congr (by simp)), hw2⟩
  go_wp2_with fail
  refine (C7.out _ hw2).mono ?_; rintro e W3 ⟨rfl, hb3⟩
  have hX3 := hX2.ext hb3
  have hw3 := hw2.trans (hb3.mono hw2.size)
  clear x3 x4 x5 x6 hX2
  cases b7
  · go_wp2
    go_ret
    exact ⟨ret_congr (bool_congr (by simp)), hw3⟩
  have x4 : W3.cell? ⟨w.heap.size, 4, none⟩ = _ := hX3.cell rfl
  have x5 : W3.cell? ⟨w.heap.size, 5, none⟩ = _ := hX3.cell rfl
  have x6 : W3.cell? ⟨w.heap.size, 6, none⟩ = _ := hX3.cell rfl
  go_wp2_with fail
  refine (C8.out _).mono ?_; rintro e w1 ⟨rfl, rfl⟩
  cases b8
  · go_wp2
    go_ret
    exact ⟨ret_congr (bool_congr (by simp)), hw3⟩
  go_wp2_with fail
  refine (C9.out _).mono ?_; rintro e w1 ⟨rfl, rfl⟩
  cases b9
  · go_wp2
    go_ret
    exact ⟨ret_congr (bool_congr (by simp)), hw3⟩
  by_cases d10 : nB ≤ 20
  case neg =>
    go_wp2
    go_ret
    exact ⟨ret_congr (bool_congr (by simp)), hw3⟩
  have hb4 := ext_alloc W3 (.cells #[.func (.func 71) #[] #[.pointer (some ⟨w.heap.size, 0, none⟩)]] 81)
  have hO := Blk.new W3 81 [.func (.func 71) #[] #[.pointer (some ⟨w.heap.size, 0, none⟩)]]
  go_upto_region 7 with fail
  change Blk (W3.alloc (.cells #[.func (.func 71) #[] #[.pointer (some ⟨w.heap.size, 0, none⟩)]] 81)) _ _ _ at hO
  generalize W3.alloc (.cells #[.func (.func 71) #[] #[.pointer (some ⟨w.heap.size, 0, none⟩)]] 81) = W4 at *
  have hX4 := hX3.ext hb4
  have hw4 := hw3.trans (hb4.mono hw3.size)
  clear x4 x5 x6 hX3
  have x0 : W4.cell? ⟨w.heap.size, 0, none⟩ = _ := hX4.cell rfl
  have x1 : W4.cell? ⟨w.heap.size, 1, none⟩ = _ := hX4.cell rfl
  have x2 : W4.cell? ⟨w.heap.size, 2, none⟩ = _ := hX4.cell rfl
  have x3 : W4.cell? ⟨w.heap.size, 3, none⟩ = _ := hX4.cell rfl
  have x4 : W4.cell? ⟨w.heap.size, 4, none⟩ = _ := hX4.cell rfl
  have x5 : W4.cell? ⟨w.heap.size, 5, none⟩ = _ := hX4.cell rfl
  have x6 : W4.cell? ⟨w.heap.size, 6, none⟩ = _ := hX4.cell rfl
  go_wp2_with fail
  refine (C11.out _ hw4).mono ?_; rintro e W5 ⟨rfl, hb5⟩
  have hX5 := hX4.ext hb5
  have hO5 := hO.ext hb5
  have hw5 := hw4.trans (hb5.mono hw4.size)
  clear x0 x1 x2 x3 x4 x5 x6 hX4
  have x6 : W5.cell? ⟨w.heap.size, 6, none⟩ = _ := hX5.cell rfl
  cases b11
  · go_wp2
    go_ret
    exact ⟨ret_congr (bool_congr (by simp)), hw5⟩
  go_wp2_with fail
  refine (C12.out _ hw5 w.heap.size W3.heap.size (hX5.cell rfl) (hO5.cell rfl)).mono ?_; rintro e W6 ⟨rfl, hb6⟩
  go_wp2
  go_ret
  exact ⟨ret_congr (bool_congr (by simp)), hw5.trans (hb6.mono hw5.size)⟩
end Go.Proofs.YtilkoooahoecfaaGreat

/- Walk: the members of a set (an iterator). -/
namespace Go.Dr
open Go.RowKit Go.Bs
theorem Bel.then_below {M : List Nat} {a b c : World} (h : Bel M a b) (k : Below a.heap.size b c) : Bel M a c :=
  ⟨k.os.trans h.os, k.tape.trans h.tape, k.output.trans h.output, Nat.le_trans h.size k.size, fun i hi hm => (k.block i hi).trans (h.block i hi hm)⟩
theorem Bel.put {M : List Nat} {a b : World} (h : Bel M a b) {p : Addr} (hp : p.block ∈ M) (u : Value) : Bel M a (b.setCell p u) := h.trans (Bel.store hp u)
theorem Bel.old {M : List Nat} {a b : World} {n : Nat} (h : Bel M a b) (hn : n ≤ a.heap.size) (hM : ∀ k ∈ M, n ≤ k) : Below n a b :=
  ⟨h.os, h.tape, h.output, h.size, fun k hk => h.block k (Nat.lt_of_lt_of_le hk hn) (fun hm => by have := hM k hm; omega)⟩
theorem Bel.blk {M : List Nat} {a b : World} (h : Bel M a b) {B T : Nat} {cs : List Value} (hB : Blk a B T cs) (hm : B ∉ M) : Blk b B T cs := (h.block B hB.lt hm).trans hB
theorem Bel.wide {M N : List Nat} {a b : World} (h : Bel M a b) (hs : ∀ k ∈ M, k ∈ N) : Bel N a b := ⟨h.os, h.tape, h.output, h.size, fun i hi hm => h.block i hi (fun hk => hm (hs i hk))⟩
theorem cells_bel {α : Type} {w w' : World} {M : List Nat} {A : Option Addr} {sz : Nat} {enc : α → List Value} {l : List α} (h : Cells w A sz enc l) (hb : Bel M w w') (hA : ∀ k, A.map (·.block) = some k → k ∉ M) : Cells w' A sz enc l := by
  refine h.keep (fun p hp hq => ?_)
  rw [World.cell?_of_block (hb.block p.block hp (hA _ hq))]
/-- of a new row of one element -/
theorem new_cell {w : World} {T : Nat} {cs : List Value} : ∀ j u, cs[j]? = some u → (w.alloc (.cells cs.toArray T)).cell? ⟨w.heap.size, j, none⟩ = some u := fun _ _ h => (Blk.new w T cs).cell h
end Go.Dr
namespace Go.Bs
open Go.RowKit Go.Pl Go.Sort
/-- What a round keeps: what lay below n₀, and the box Bs. -/
def Kept (n₀ Bs : Nat) (X Y : World) : Prop := Below n₀ X Y ∧ Y.cell? ⟨Bs, 0, none⟩ = X.cell? ⟨Bs, 0, none⟩
theorem Kept.trans {n₀ Bs : Nat} {X Y Z : World} (h : Kept n₀ Bs X Y) (k : Kept n₀ Bs Y Z) : Kept n₀ Bs X Z := ⟨h.1.trans k.1, k.2.trans h.2⟩
theorem Kept.put {n₀ Bs : Nat} {w : World} (hn : n₀ ≤ w.heap.size) (hB : Bs < w.heap.size) (W : World) (l : Nat) (o o' : Obj) (hl : w.heap.size ≤ l) (h : W.heap[l]? = some o) (hc : o.isCells = false) (hw : o.isWalk = false) : Kept n₀ Bs W (W.putObj l o') := by
  refine ⟨belowK_b hn W l o o' hl h hc hw, ?_⟩
  have hne : Bs ≠ l := by omega
  simp [World.cell?, World.putObj, Ne.symm hne]
/-- How far a round has come. -/
structure Rnd (B n₀ Bs : Nat) (W W' : World) : Prop where
  kf : KeepsFrom B W W'
  kp : Kept n₀ Bs W W'
  sz : W.heap.size ≤ W'.heap.size
theorem Rnd.refl (B n₀ Bs : Nat) (W : World) : Rnd B n₀ Bs W W := ⟨KeepsFrom.refl _ _, ⟨Below.refl _ _, rfl⟩, Nat.le_refl _⟩
theorem Rnd.ext {B n₀ Bs : Nat} {W W' W'' : World} (h : Rnd B n₀ Bs W W') (hb : Below W'.heap.size W' W'') (h1 : n₀ ≤ W.heap.size) (h2 : Bs < W.heap.size) : Rnd B n₀ Bs W W'' :=
  ⟨h.kf.trans ⟨hb.size, fun k _ _ hk _ => (hb.block k (Array.getElem?_eq_some_iff.1 hk).1).trans hk⟩,
   h.kp.trans ⟨hb.mono (Nat.le_trans h1 h.sz), hb.cell (p := ⟨Bs, 0, none⟩) (Nat.lt_of_lt_of_le h2 h.sz)⟩, Nat.le_trans h.sz hb.size⟩
theorem Rnd.setCell {B n₀ Bs : Nat} {W W' : World} {p : Addr} (h : Rnd B n₀ Bs W W') (h1 : n₀ ≤ p.block) (h2 : Bs ≠ p.block) (u : Value) : Rnd B n₀ Bs W (W'.setCell p u) := by
  refine ⟨h.kf.trans ((KeepsOthers.setCell _ _ _).from _), h.kp.trans ⟨(Below.refl _ _).setCell h1 _, ?_⟩, ?_⟩
  · have hh : (W'.setCell p u).heap[Bs]? = W'.heap[Bs]? := Below.heap_setCell W' p u Bs h2
    simp [World.cell?, hh]
  · have := h.sz
    simpa [World.setCell] using this
theorem Blk.kept {W W' : World} {B T : Nat} {cs : List Value} {row : Option Nat} (h : Blk W B T cs) (hg : W.grownBy W' row) (hr : ∀ r, row = some r → ∃ o : Obj, W.heap[r]? = some o ∧ o.isCells = false) : Blk W' B T cs :=
  (hg.block B h.lt (fun e => by
    obtain ⟨o, h1, h2⟩ := hr B e.symm
    rw [show W.heap[B]? = _ from h] at h1
    cases h1; cases h2)).trans h
theorem below_grown {n : Nat} {w W W' : World} {row : Option Nat} (h : Below n w W) (hn : n ≤ W.heap.size) (hg : W.grownBy W' row) (hr : ∀ k, row = some k → n ≤ k) : Below n w W' :=
  h.trans ⟨hg.os, hg.tape, hg.output, hg.size, fun k hk => hg.block k (by omega) (fun e => by have := hr k e.symm; omega)⟩
end Go.Bs
namespace Go.Pg
open Go.Pl
/-- a number of a set -/
abbrev Mb (s : Nat) := { x : Nat // s.testBit x = true }
def mbL (s k : Nat) : List (Mb s) := (List.range k).filterMap fun i => if h : s.testBit i = true then some ⟨i, h⟩ else none
theorem mbL_hit {s k : Nat} (h : s.testBit k = true) : mbL s (k + 1) = mbL s k ++ [⟨k, h⟩] := by
  unfold mbL
  rw [List.range_succ, List.filterMap_append]
  simp [h]
theorem mbL_miss {s k : Nat} (h : s.testBit k = false) : mbL s (k + 1) = mbL s k := by
  unfold mbL
  rw [List.range_succ, List.filterMap_append]
  simp [h]
theorem mbL_val (s k : Nat) : (mbL s k).map (·.1) = (List.range k).filter fun i => s.testBit i := by
  induction k with
  | zero => rfl
  | succ k ih =>
    rw [List.range_succ, List.filter_append, ← ih]
    cases h : s.testBit k
    · rw [mbL_miss h]; simp [h]
    · rw [mbL_hit h]; simp [h]
theorem mbL_len (s k : Nat) : (mbL s k).length ≤ k := by
  have := congrArg List.length (mbL_val s k)
  rw [List.length_map] at this
  rw [this]
  refine Nat.le_trans (List.length_filter_le _ _) (by simp)
theorem filt_end {p : Nat → Bool} {k n : Nat} (h : k ≤ n) (hp : ∀ i, k ≤ i → p i = false) : (List.range n).filter p = (List.range k).filter p := by
  induction n with
  | zero => obtain rfl : k = 0 := by omega
            rfl
  | succ n ih =>
    by_cases hk : k = n + 1
    · rw [hk]
    · rw [List.range_succ, List.filter_append, ih (by omega)]
      simp [hp n (by omega)]
theorem mbL_end {s k : Nat} (hk : k ≤ 16) (h : s / 2 ^ k = 0) : (mbL s k).map (·.1) = Sh.memb s := by
  rw [mbL_val]
  unfold Sh.memb
  rw [filt_end hk]
  intro i hi
  refine Nat.testBit_lt_two_pow ?_
  rw [Nat.div_eq_zero_iff] at h
  have h2 : 2 ^ k ≤ 2 ^ i := Nat.pow_le_pow_right (by omega) hi
  have := Nat.two_pow_pos k
  omega
theorem mem_memb {s i : Nat} : i ∈ Sh.memb s ↔ i < 16 ∧ s.testBit i = true := by simp [Sh.memb]
theorem bit16 (s i : Nat) (hs : s < 65536) : bits BinOp.and IntKind.u16 ((s : Int) / 2 ^ i) 1 = if s.testBit i = true then 1 else 0 := by
  have e : (s : Int) / 2 ^ i = ((s / 2 ^ i : Nat) : Int) := by norm_cast
  have h := u16_and_nat (s / 2 ^ i) 1 (Nat.lt_of_le_of_lt (Nat.div_le_self _ _) hs) (by omega)
  rw [e]
  rw [show ((1 : Nat) : Int) = 1 from rfl] at h
  rw [h, Nat.and_one_is_mod, Nat.testBit_eq_decide_div_mod_eq]
  by_cases h2 : s / 2 ^ i % 2 = 1
  · simp [h2]
  · have : s / 2 ^ i % 2 = 0 := by omega
    simp [this]
theorem andNot16 (a b : Nat) (ha : a < 65536) : ∃ c : Nat, c < 65536 ∧ bits .andNot .u16 (a : Int) (b : Int) = (c : Int) ∧ ∀ i, c.testBit i = (a.testBit i && !b.testBit i) := by
  refine ⟨(BitVec.ofNat 16 a &&& ~~~ BitVec.ofNat 16 b).toNat, BitVec.isLt _, ?_, fun i => ?_⟩
  · unfold bits
    simp only [BitVec.ofInt_natCast]
    rw [IntKind.wrap_u16]
    have : (BitVec.ofNat IntKind.u16.bits a &&& ~~~ BitVec.ofNat IntKind.u16.bits b).toNat < 65536 := BitVec.isLt _
    show _ = ((BitVec.ofNat IntKind.u16.bits a &&& ~~~ BitVec.ofNat IntKind.u16.bits b).toNat : Int)
    omega
  · rw [BitVec.testBit_toNat, BitVec.getLsbD_and, BitVec.getLsbD_not, BitVec.getLsbD_ofNat, BitVec.getLsbD_ofNat]
    by_cases h : i < 16
    · simp [h]
    · have : a.testBit i = false := Nat.testBit_lt_two_pow (Nat.lt_of_lt_of_le ha (show 2 ^ 16 ≤ 2 ^ i from Nat.pow_le_pow_right (by omega) (by omega)))
      simp [this]
theorem shr_ne (s k : Nat) : ((s : Int) / 2 ^ k != 0) = !decide (s / 2 ^ k = 0) := by
  have e : (s : Int) / 2 ^ k = ((s / 2 ^ k : Nat) : Int) := by norm_cast
  rw [e, bne]
  congr 1
  rw [Bool.eq_iff_iff]
  simp only [beq_iff_eq, decide_eq_true_eq]
  omega
end Go.Pg
namespace Go.Proofs.YtilkoooahoecfaaGreat
open Go.RowKit Go.Bs Go.Pg Go.Pl Go.Sort

theorem members_any (s : Nat) (w : World) :
    Calls Tryz.prog 30 #[.int .u16 s] w fun e w' => e = .returned (.func (.func 54) #[] #[.pointer (some ⟨w.heap.size, 0, none⟩)]) ∧ w' = w.alloc (.cells #[.int .u16 s] 27) := by
  go_enter Tryz.func30, Tryz.ntmps30
  go_wp2
  go_ret
  exact ⟨rfl, rfl⟩
section
attribute [local go_sem] Oper.semAt_some
set_option maxRecDepth 100000 in
set_option maxHeartbeats 2000000 in
theorem mem_in (s : Nat) (hs : s < 65536) (F : Fence) (f : Nat) (h : F.fn 54) (hro : F.round = none) (hf : 1 ≤ f) (l Bs n₀ : Nat) (J Jx : List (Mb s) → World → Prop) (W : World)
    (hY : ∀ pre x W, J pre W → pre.length < 16 → YieldAt F (f - 1) Tryz.prog l #[Value.int .i64 (x.1 : Int)] W fun e W' =>
      (e = .returned (.bool true) ∧ J (pre ++ [x]) W' ∧ Kept n₀ Bs W W') ∨ (e = .returned (.bool false) ∧ Jx (pre ++ [x]) W'))
    (hBs : W.cell? ⟨Bs, 0, none⟩ = some (.int .u16 s)) (h0 : J [] W) :
    CallsIn F f Tryz.prog 54 #[.func (.yield l) #[] #[], .pointer (some ⟨Bs, 0, none⟩)] W fun e W' => (∃ v, e = .returned v) ∧
      ((∃ ys : List (Mb s), ys.map (·.1) = Sh.memb s ∧ J ys W') ∨ (∃ pre, True ∧ Jx pre W')) := by
  refine callsIn_of_wp Tryz.func54 rfl h ?_ hro
  simp only [Tryz.ntmps54, List.size_toArray, List.length_cons, List.length_nil, Nat.reduceAdd, Nat.reduceSub, Array.replicate_succ, Array.replicate_zero, List.push_toArray, List.append_toArray, List.nil_append, List.cons_append]
  have HY := Lib.hid hY
  clear hY
  gi_wp2
  gi_loopw [3] (fun i wr => ∃ k : Nat, k ≤ 16 ∧ i = .int .i64 k ∧ Hid (J (mbL s k) wr) ∧ Kept n₀ Bs W wr)
    (fun i _ => 16 - (intOf i).toNat)
  case atStart => exact ⟨0, Nat.zero_le _, rfl, Lib.hid h0, ⟨Below.refl _ _, rfl⟩⟩
  case round =>
    obtain ⟨k, hk, rfl, hJs, hnx⟩ := hrel
    have hBs' := hnx.2.trans hBs
    clear hBs
    by_cases hz : s / 2 ^ k = 0
    · have hzb : ((s : Int) / 2 ^ k != 0) = false := by rw [shr_ne]; simp [hz]
      have Hz := Lib.hid hz
      clear hz HY
      gi_wp2
      go_end0
      exact ⟨⟨_, rfl⟩, .inl ⟨_, mbL_end hk Hz.out, hJs.out⟩⟩
    · have hzb : ((s : Int) / 2 ^ k != 0) = true := by rw [shr_ne]; simp [hz]
      have hk16 : k < 16 := by
        rcases Nat.lt_or_ge k 16 with h1 | h1
        · exact h1
        · exact absurd (Nat.div_eq_of_lt (Nat.lt_of_lt_of_le hs (show 2 ^ 16 ≤ 2 ^ k from Nat.pow_le_pow_right (by omega) h1))) hz
      clear hz
      have hb16 := bit16 s k hs
      cases hbit : s.testBit k
      · have hj : J (mbL s (k + 1)) wr := by rw [mbL_miss hbit]; exact hJs.out
        have Hj := Lib.hid hj
        rw [hbit] at hb16
        simp only [Bool.false_eq_true, if_false] at hb16
        clear hj HY hJs hbit
        gi_wp2
        refine ⟨fun f e => (by cases e), ?_⟩
        gi_wp2
        go_roundw
        case rel => exact ⟨k + 1, by omega, by go_num, Hj, hnx⟩
        case measure => simp [intOf]; omega
      · obtain ⟨fn, tmps, assign, body, hy, hR⟩ := HY.out _ ⟨k, hbit⟩ wr hJs.out (by have := mbL_len s k; omega)
        have HR := Lib.hid hR
        have hh := Lib.hid (mbL_hit hbit)
        rw [hbit] at hb16
        simp only [if_true] at hb16
        dsimp only at hy
        clear hR HY hJs
        gi_wp2
        have hR := HR.out
        refine hR.mono ?_
        rintro e W3 (⟨rfl, hJ3, hk3⟩ | ⟨rfl, hJx3⟩)
        · have HJ3 := Lib.hid (show J (mbL s (k + 1)) W3 by rw [hh.out]; exact hJ3)
          clear hJ3
          gi_wp2
          go_roundw
          case rel => exact ⟨k + 1, by omega, by go_num, HJ3, hnx.trans hk3⟩
          case measure => simp [intOf]; omega
        · have HJ3 := Lib.hid (show Jx (mbL s (k + 1)) W3 by rw [hh.out]; exact hJx3)
          clear hJx3
          gi_wp2
          refine bodyPost_ret (results_none rfl _ _ _) rfl ?_
          exact ⟨⟨_, rfl⟩, .inr ⟨_, trivial, HJ3.out⟩⟩
theorem mem_stops (s : Nat) (hs : s < 65536) (F : Fence) (f : Nat) (h : F.fn 54) (hro : F.round = none) (hf : 1 ≤ f) (Bs n₀ : Nat) (w : World) (hBs : w.cell? ⟨Bs, 0, none⟩ = some (.int .u16 s)) (hB : Bs < w.heap.size) :
    SeqStopsK F f Tryz.prog 54 #[.pointer (some ⟨Bs, 0, none⟩)] (fun x : Mb s => #[Value.int .i64 (x.1 : Int)]) (Kept n₀ Bs) (fun ys => ys.map (·.1) = Sh.memb s) (fun _ => True) 16 w := fun l J Jx W hW _ _ hY h0 =>
  mem_in s hs F f h hro hf l Bs n₀ J Jx W hY ((hW.cell (p := ⟨Bs, 0, none⟩) hB).trans hBs) h0
end
end Go.Proofs.YtilkoooahoecfaaGreat
