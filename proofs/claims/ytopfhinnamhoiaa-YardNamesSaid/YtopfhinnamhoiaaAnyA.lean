/- Any loads within their ranges: flows and drops lie between; has. -/
import Derived.Deep.DeepCutAuto
import Derived.Test.YtopfhinnamhoiaaGridR
namespace Go.Proofs.Ytopfhinnamhoiaa
open Go.RowKit Go.Bs Go.Yd Go.Pl Go.Sort

theorem Gd.fl_mono {g : Gd} (hf : Gd.fed g) {l l' : Nat → Int} (h : ∀ i, i < g.nodes.length → l i ≤ l' i) : ∀ m, m ≤ g.nodes.length → ∀ j, g.fl l m j ≤ g.fl l' m j
  | 0, _, j => by simp [Gd.fl]
  | m + 1, hm, j => by
    obtain ⟨i, hi⟩ : ∃ i, g.nodes.length = m + 1 + i := ⟨g.nodes.length - m - 1, by omega⟩
    have ih := Gd.fl_mono hf h m (by omega)
    have h1 := ih i
    have h2 := ih j
    have h3 := h i (by omega)
    rw [Gd.fl_at hf l hi j, Gd.fl_at hf l' hi j]
    split
    · omega
    · split <;> omega
theorem Gd.dr_mono {g : Gd} (hf : Gd.Fit g) {f f' : Nat → Int} (h : ∀ i, f i ≤ f' i) : ∀ m, m ≤ g.nodes.length → ∀ j, g.dr f m j ≤ g.dr f' m j
  | 0, _, j => by simp [Gd.dr]
  | m + 1, hm, j => by
    have ih := Gd.dr_mono hf h m (by omega)
    rw [Gd.dr_at g, Gd.dr_at g]
    split
    · rename_i h0
      have h1 := (hf.inn m h0.1 (by omega)).2.2.1
      have h2 := ih (g.par m)
      have h3 := Int.mul_le_mul_of_nonneg_left (h m) h1
      omega
    · exact ih j
/-- the load that the words choose -/
def Gd.picked (g : Gd) (words : List Int) (k : Nat) : Int := g.lo k + (words.getD (k % words.length) 0).tmod (g.hi k - g.lo k + 1)
theorem tmod_bd {a b : Int} (h0 : 0 ≤ a) (hb : 0 ≤ b) : 0 ≤ a.tmod (b + 1) ∧ a.tmod (b + 1) ≤ b := by
  have h1 := Int.tmod_lt_of_pos a (show 0 < b + 1 by omega)
  have h2 := Int.tmod_nonneg (b + 1) h0
  omega
theorem Gd.picked_bd {g : Gd} (hok : g.ok) {words : List Int} (hw : ∀ x ∈ words, 0 ≤ x ∧ x ≤ 65535) {k : Nat} (hk : k < g.nodes.length) : g.lo k ≤ Gd.picked g words k ∧ Gd.picked g words k ≤ g.hi k := by
  have hl := (hok.nodes k hk).load
  have h0 : 0 ≤ words.getD (k % words.length) 0 := by
    rw [List.getD_eq_getElem?_getD]
    cases e : words[k % words.length]? with
    | none => simp
    | some x => exact (hw x (List.mem_of_getElem? e)).1
  have := tmod_bd (a := words.getD (k % words.length) 0) (b := g.hi k - g.lo k) h0 (by unfold Gd.hi Gd.lo; omega)
  unfold Gd.picked
  omega
structure Gd.Mid (g : Gd) (l : Nat → Int) : Prop where
  load : ∀ i, i < g.nodes.length → 0 ≤ l i ∧ l i ≤ 1000000
  fl : ∀ m, m ≤ g.nodes.length → ∀ j, 0 ≤ g.fl l m j ∧ g.fl l m j ≤ 30000000
  flow : ∀ j, Gd.flo g j ≤ g.flow l j ∧ g.flow l j ≤ Gd.fhi g j
  dr : ∀ m, m ≤ g.nodes.length → ∀ j, 0 ≤ g.dr (g.flow l) m j ∧ g.dr (g.flow l) m j ≤ 1800000000000
  drop : ∀ j, Gd.dlo g j ≤ g.drop (g.flow l) j ∧ g.drop (g.flow l) j ≤ Gd.dhi g j
theorem Gd.mid {g : Gd} (hok : g.ok) {l : Nat → Int} (hl : ∀ i, i < g.nodes.length → g.lo i ≤ l i ∧ l i ≤ g.hi i) : Gd.Mid g l := by
  have hf := Gd.ok_fit hok
  have h1 : ∀ i, i < g.nodes.length → 0 ≤ l i ∧ l i ≤ 1000000 := fun i hi => by
    have := (hok.nodes i hi).load
    have := hl i hi
    unfold Gd.hi Gd.lo at this
    omega
  have h2 : ∀ j, Gd.flo g j ≤ g.flow l j ∧ g.flow l j ≤ Gd.fhi g j := fun j =>
    ⟨Gd.fl_mono hf.fed (fun i hi => (hl i hi).1) _ (Nat.le_refl _) j, Gd.fl_mono hf.fed (fun i hi => (hl i hi).2) _ (Nat.le_refl _) j⟩
  have h3 : ∀ j, 0 ≤ g.flow l j ∧ g.flow l j ≤ 60000000 := fun j => hf.flow_bd (fun i hi => by have := h1 i hi; omega) j
  refine ⟨h1, fun m hm j => ?_, h2, fun m hm j => ?_, fun j => ⟨Gd.dr_mono hf (fun i => (h2 i).1) _ (Nat.le_refl _) j, Gd.dr_mono hf (fun i => (h2 i).2) _ (Nat.le_refl _) j⟩⟩
  · have := (Gd.fl_bd2 hf.fed (by omega) h1 m hm).1 j
    have := hok.len
    omega
  · have := Gd.Fit.dr_bd hf h3 m hm j
    have := hok.len
    omega
theorem mem_over (lim f : Nat → Int) (n k : Nat) : (k : Int) ∈ natsI (overN lim f n) ↔ k < n ∧ lim k < f k := by
  simp only [natsI, overN, List.mem_map, List.mem_filter, List.mem_range, decide_eq_true_eq]
  constructor
  · rintro ⟨a, h, e⟩
    have e : (a : Int) = (k : Int) := e
    obtain rfl : a = k := by omega
    exact h
  · intro h; exact ⟨k, h, rfl⟩
theorem Gd.blow_in {g : Gd} {l : Nat → Int} (h : Gd.Mid g l) {k : Nat} (hk : k < g.nodes.length) (hb : Gd.blowB g (g.flow l) k = true) : (k : Int) ∈ natsI (overN (Gd.fuseOf g) (Gd.fhi g) g.nodes.length) := by
  rw [mem_over]
  have hb := of_decide_eq_true hb
  have := (h.flow k).2
  unfold Gd.fuseOf
  rw [if_neg (by omega)]
  omega
theorem Gd.blow_out {g : Gd} (hok : g.ok) {l : Nat → Int} (h : Gd.Mid g l) {k : Nat} (hb : Gd.blowB g (g.flow l) k = false) : ¬ (k : Int) ∈ natsI (overN (Gd.fuseOf g) (Gd.flo g) g.nodes.length) := by
  rw [mem_over]
  have hb := of_decide_eq_false hb
  have h1 := (h.flow k).1
  have h2 := (Gd.ok_fit hok).fl k
  unfold Gd.fuseOf
  split <;> omega
theorem Gd.low_in {g : Gd} {l : Nat → Int} (h : Gd.Mid g l) {k : Nat} (hk : k < g.nodes.length) (hb : Gd.lowB g (g.drop (g.flow l)) k = true) : (k : Int) ∈ natsI (overN (fun _ => g.limit) (Gd.dhi g) g.nodes.length) := by
  rw [mem_over]
  have hb := of_decide_eq_true hb
  have := (h.drop k).2
  omega
theorem Gd.low_out {g : Gd} {l : Nat → Int} (h : Gd.Mid g l) {k : Nat} (hb : Gd.lowB g (g.drop (g.flow l)) k = false) : ¬ (k : Int) ∈ natsI (overN (fun _ => g.limit) (Gd.dlo g) g.nodes.length) := by
  rw [mem_over]
  have hb := of_decide_eq_false hb
  have := (h.drop k).1
  omega

set_option maxRecDepth 100000 in
theorem has_any (A : Option Addr) (n c : Nat) (x : Int) (l : List Int) (w : World) (hn : l.length = n) (hm : n ≤ 1000000000) (hd : Cells w A 1 encI l) :
    Calls Try.prog 39 #[.slice A n c, .int .i64 x] w fun e w' => e = .returned (.bool (decide (x ∈ l))) ∧ w = w' := by
  generalize hres : decide (x ∈ l) = res
  have Hres := Lib.hid hres
  clear hres
  go_enter Try.func39, Try.ntmps39
  go_wp2
  go_loopw [5] (fun y wr => ∃ k : Nat, y = .int .i64 k ∧ k ≤ n ∧ Hid (∀ z ∈ l.take k, z ≠ x) ∧ wr = w) (fun y _ => n - (intOf y).toNat)
  case atStart => exact ⟨0, rfl, by omega, Lib.hid (by simp), rfl⟩
  case round =>
    obtain ⟨k, rfl, hk, Hk, rfl⟩ := hrel
    by_cases hlt : k < n
    · have hlt' : (k : Int) < n := by omega
      have hk0 : (0 : Int) ≤ k := by omega
      have k1 : k < l.length := by rw [hn]; exact hlt
      obtain ⟨b1, o1, rfl, -, d1⟩ := hd.at1 k1 rfl
      cases hq : (l[k] == x)
      · have Hn := Lib.hid (show ∀ z ∈ l.take (k + 1), z ≠ x by
          intro z hz
          rw [List.take_succ_eq_append_getElem k1, List.mem_append] at hz
          rcases hz with hz | hz
          · exact Hk.out z hz
          · rw [List.mem_singleton] at hz; subst hz; simpa using hq)
        go_wp2
        go_roundw
        case rel => exact ⟨k + 1, by go_num, by omega, Hn, trivial⟩
        case measure => simp [intOf]; omega
      · have Hr := Lib.hid (show res = true by
          rw [← Hres.out]
          have : l[k] = x := by simpa using hq
          rw [← this]
          exact decide_eq_true (List.getElem_mem k1))
        go_wp2
        go_ret
        exact ⟨ret_congr (bool_congr Hr.out.symm), rfl⟩
    · obtain rfl : k = n := by omega
      have Hr := Lib.hid (show res = false by
        rw [← Hres.out]
        have e := Hk.out
        rw [List.take_of_length_le (by omega)] at e
        exact decide_eq_false (fun h => e x h rfl))
      go_wp2
      go_ret
      exact ⟨ret_congr (bool_congr Hr.out.symm), rfl⟩
theorem has_t {A : Option Addr} {n c : Nat} {x : Int} {l : List Int} {w : World} (h : x ∈ l) (hn : l.length = n) (hm : n ≤ 1000000000) (hd : Cells w A 1 encI l) :
    Calls Try.prog 39 #[.slice A n c, .int .i64 x] w fun e w' => e = .returned (.bool true) ∧ w = w' := by
  have := has_any A n c x l w hn hm hd
  rwa [decide_eq_true h] at this
theorem has_f {A : Option Addr} {n c : Nat} {x : Int} {l : List Int} {w : World} (h : ¬ x ∈ l) (hn : l.length = n) (hm : n ≤ 1000000000) (hd : Cells w A 1 encI l) :
    Calls Try.prog 39 #[.slice A n c, .int .i64 x] w fun e w' => e = .returned (.bool false) ∧ w = w' := by
  have := has_any A n c x l w hn hm hd
  rwa [decide_eq_false h] at this
end Go.Proofs.Ytopfhinnamhoiaa
