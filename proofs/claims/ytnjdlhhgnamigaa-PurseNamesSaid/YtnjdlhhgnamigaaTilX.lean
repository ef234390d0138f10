/- Tills: which amounts can be given, the gap, the fewest pieces; Gap, ref.Worth and ref.Gap are walked. -/
import Derived.Test.YtnjdlhhgnamigaaTilF
import Derived.Test.YtnjdlhhgnamigaaLedD
/- Tills: which amounts can be given; the gap; what pieces are worth: as plain data. -/
namespace Go.Pu
open Go.Pl
def gStep (v : Nat) (G : Nat → Bool) (a : Nat) : Bool := G a || (decide (v ≤ a) && G (a - v))
def gR (v : Nat) (G : Nat → Bool) : Nat → Nat → Bool
  | 0 => G
  | q + 1 => gStep v (gR v G q)
/-- can an amount be given by the first i kinds? -/
def Tl.giv (t : Tl) : Nat → Nat → Bool
  | 0 => fun a => decide (a = 0)
  | i + 1 => gR (t.v i) (t.giv i) (t.c i)
theorem gR_iff (v : Nat) (G : Nat → Bool) : ∀ q a, gR v G q a = true ↔ ∃ n, n ≤ q ∧ n * v ≤ a ∧ G (a - n * v) = true
  | 0, a => by
    show G a = true ↔ _
    constructor
    · intro h; exact ⟨0, Nat.le_refl _, by omega, by simpa using h⟩
    · rintro ⟨n, hn, -, h⟩
      obtain rfl : n = 0 := by omega
      simpa using h
  | q + 1, a => by
    show (gR v G q a || (decide (v ≤ a) && gR v G q (a - v))) = true ↔ _
    rw [Bool.or_eq_true, Bool.and_eq_true, decide_eq_true_eq, gR_iff v G q a, gR_iff v G q (a - v)]
    constructor
    · rintro (⟨n, h1, h2, h3⟩ | ⟨h0, n, h1, h2, h3⟩)
      · exact ⟨n, by omega, h2, h3⟩
      · refine ⟨n + 1, by omega, by rw [Nat.add_mul]; omega, ?_⟩
        rw [Nat.add_mul, Nat.one_mul, show a - (n * v + v) = a - v - n * v by omega]
        exact h3
    · rintro ⟨n, h1, h2, h3⟩
      cases n with
      | zero => exact .inl ⟨0, by omega, by omega, h3⟩
      | succ n =>
        rw [Nat.add_mul, Nat.one_mul] at h2 h3
        refine .inr ⟨by omega, n, by omega, by omega, ?_⟩
        rw [show a - v - n * v = a - (n * v + v) by omega]
        exact h3
section
variable {t : Tl}
theorem Tl.row_iff (h : t.ok) {i : Nat} (hi : i < t.vals.length) (a : Nat) : t.row i a ≠ 401 ↔ ∃ n, n ≤ t.c i ∧ n * t.v i ≤ a ∧ t.row (i + 1) (a - n * t.v i) ≠ 401 := by
  rw [t.row_eq hi]
  constructor
  · intro hne
    rcases bestN_hit (t.row (i + 1)) (t.v i) a (t.ways i a) with e | ⟨n, hn, e⟩
    · exact absurd e hne
    · obtain ⟨h1, h2⟩ := Tl.ways_yes h hi hn
      refine ⟨n, h1, h2, fun h4 => hne ?_⟩
      have h5 := (bestN_le (t.row (i + 1)) (t.v i) a (t.ways i a)).1
      rw [e, h4] at h5
      rw [e, h4]
      omega
  · rintro ⟨n, h1, h2, h3⟩
    have hn : n < t.ways i a := by
      rcases Nat.lt_or_ge n (t.ways i a) with h4 | h4
      · exact h4
      · rcases Tl.ways_no h hi (q := n) (Nat.not_lt.2 h4) with h5 | ⟨_, h5⟩
        · exact absurd h1 (Nat.not_le.2 h5)
        · exact absurd h2 (Nat.not_le.2 h5)
    have h4 := (bestN_le (t.row (i + 1)) (t.v i) a (t.ways i a)).2 n hn
    have hc := h.c_bd hi
    have h5 := Tl.few_sum h hi n (.inr (by omega)) (a - n * t.v i)
    omega
theorem Tl.giv_row (h : t.ok) (a : Nat) : ∀ k, k ≤ t.vals.length → (t.row 0 a ≠ 401 ↔ ∃ b, b ≤ a ∧ t.giv k b = true ∧ t.row k (a - b) ≠ 401)
  | 0, _ => by
    constructor
    · intro hr; exact ⟨0, by omega, by simp [Tl.giv], by simpa using hr⟩
    · rintro ⟨b, _, h1, h2⟩
      obtain rfl : b = 0 := by simpa [Tl.giv] using h1
      simpa using h2
  | k + 1, hk => by
    rw [Tl.giv_row h a k (by omega)]
    constructor
    · rintro ⟨b, hb, h1, h2⟩
      obtain ⟨n, h3, h4, h5⟩ := (Tl.row_iff h (by omega) _).1 h2
      refine ⟨b + n * t.v k, by omega, ?_, ?_⟩
      · show gR (t.v k) (t.giv k) (t.c k) _ = true
        rw [gR_iff]
        exact ⟨n, h3, by omega, by rw [show b + n * t.v k - n * t.v k = b by omega]; exact h1⟩
      · rw [show a - (b + n * t.v k) = a - b - n * t.v k by omega]; exact h5
    · rintro ⟨b, hb, h1, h2⟩
      have h1 : gR (t.v k) (t.giv k) (t.c k) b = true := h1
      rw [gR_iff] at h1
      obtain ⟨n, h3, h4, h5⟩ := h1
      refine ⟨b - n * t.v k, by omega, h5, (Tl.row_iff h (by omega) _).2 ⟨n, h3, by omega, ?_⟩⟩
      rw [show a - (b - n * t.v k) - n * t.v k = a - b by omega]
      exact h2
theorem Tl.giv_iff (h : t.ok) (a : Nat) : t.row 0 a ≠ 401 ↔ t.giv t.vals.length a = true := by
  rw [Tl.giv_row h a _ (Nat.le_refl _)]
  constructor
  · rintro ⟨b, hb, h1, h2⟩
    rw [t.row_end] at h2
    split at h2
    · obtain rfl : b = a := by omega
      exact h1
    · exact absurd rfl h2
  · intro h1
    exact ⟨a, Nat.le_refl _, h1, by rw [t.row_end, Nat.sub_self]; simp⟩
end
/-- what the first k kinds are worth -/
def Tl.wh (t : Tl) : Nat → Nat
  | 0 => 0
  | k + 1 => t.wh k + t.v k * t.c k
def Tl.whole (t : Tl) : Nat := t.wh t.vals.length
theorem Tl.wh_mono (t : Tl) : ∀ (k m : Nat), k ≤ m → t.wh k ≤ t.wh m
  | k, 0, h => by obtain rfl : k = 0 := by omega
                  exact Nat.le_refl _
  | k, m + 1, h => by
    by_cases e : k = m + 1
    · subst e; exact Nat.le_refl _
    · have := Tl.wh_mono t k m (by omega)
      show t.wh k ≤ t.wh m + t.v m * t.c m
      omega
theorem Tl.wh_one (t : Tl) {i : Nat} (hi : i < t.vals.length) : t.v i * t.c i ≤ t.whole := by
  have := t.wh_mono (i + 1) t.vals.length (by omega)
  have e : t.wh (i + 1) = t.wh i + t.v i * t.c i := rfl
  unfold Tl.whole
  omega
theorem Tl.wh_bd {t : Tl} (h : t.ok) : ∀ k, k ≤ t.vals.length → t.wh k ≤ k * 50000
  | 0, _ => by simp [Tl.wh]
  | k + 1, hk => by
    have := Tl.wh_bd h k (by omega)
    have h1 := h.v_bd (i := k) (by omega)
    have h2 := h.c_bd (i := k) (by omega)
    have h3 : t.v k * t.c k ≤ 1000 * 50 := Nat.mul_le_mul h1.2 h2
    show t.wh k + t.v k * t.c k ≤ _
    omega
/-- the least amount that cannot be given -/
structure IsGap (R : Nat → Bool) (whole g : Nat) : Prop where
  le : g ≤ whole + 1
  lo : ∀ a, a < g → R a = true
  hi : g ≤ whole → R g = false
theorem IsGap.uniq {R : Nat → Bool} {whole g k : Nat} (h : IsGap R whole g) (q : IsGap R whole k) : g = k := by
  rcases Nat.lt_trichotomy g k with h1 | h1 | h1
  · have h2 := q.lo g h1
    have h3 := h.hi (by have := q.le; omega)
    rw [h2] at h3; cases h3
  · exact h1
  · have h2 := h.lo k h1
    have h3 := q.hi (by have := h.le; omega)
    rw [h2] at h3; cases h3
/-- a round of the program's loop -/
theorem gStep_low (v : Nat) (G : Nat → Bool) {a : Nat} (h : a < v) : gStep v G a = G a := by
  unfold gStep
  rw [decide_eq_false (by omega)]
  simp
/-- what pieces are worth, and whether they are in a till -/
def Tl.fitB (t : Tl) (l : List Int) (k : Nat) : Bool := decide (k < t.vals.length) && decide (0 ≤ l.getD k 0 ∧ l.getD k 0 ≤ t.c k)
def Tl.sumW (t : Tl) (l : List Int) (k : Nat) : Int := isum (tab k fun i => l.getD i 0 * t.v i)
def Tl.worth (t : Tl) (l : List Int) : Int × Bool := if (List.range l.length).all (t.fitB l) then (t.sumW l l.length, decide (l.length = t.vals.length)) else (0, false)
theorem Tl.worth_self {t : Tl} (h : t.ok) : t.worth t.cnts = ((t.whole : Int), true) := by
  have h1 : (List.range t.cnts.length).all (t.fitB t.cnts) = true := by
    rw [List.all_eq_true]
    intro k hk
    have hk : k < t.cnts.length := by simpa using hk
    have hk2 : k < t.vals.length := by rw [← h.eq]; exact hk
    have e := h.c_eq hk2
    unfold Tl.fitB
    simp only [Bool.and_eq_true, decide_eq_true_eq]
    refine ⟨hk2, ?_⟩
    rw [List.getD_eq_getElem?_getD, List.getElem?_eq_getElem hk, Option.getD_some, e]
    omega
  have h2 : ∀ k, k ≤ t.cnts.length → t.sumW t.cnts k = (t.wh k : Int) := by
    intro k
    induction k with
    | zero => intro _; simp [Tl.sumW, tab, isum, Tl.wh]
    | succ k ih =>
      intro hk
      have hk2 : k < t.vals.length := by rw [← h.eq]; omega
      have e := h.c_eq hk2
      unfold Tl.sumW at ih ⊢
      have e2 : tab (k + 1) (fun i => t.cnts.getD i 0 * (t.v i : Int)) = tab k (fun i => t.cnts.getD i 0 * (t.v i : Int)) ++ [t.cnts.getD k 0 * (t.v k : Int)] := by simp [tab, List.range_succ]
      rw [e2, isum_append, ih (by omega)]
      rw [List.getD_eq_getElem?_getD, List.getElem?_eq_getElem (by omega : k < t.cnts.length), Option.getD_some, e]
      show (t.wh k : Int) + isum [(t.c k : Int) * t.v k] = ((t.wh k + t.v k * t.c k : Nat) : Int)
      simp only [isum, Int.natCast_add, Int.natCast_mul]
      rw [Int.mul_comm (t.c k : Int)]
      omega
  unfold Tl.worth
  rw [if_pos h1, h2 _ (Nat.le_refl _)]
  rw [h.eq]
  simp [Tl.whole]
end Go.Pu

/- Walk: the gap of a till. -/
namespace Go.Pu
theorem boolsL_put (m : Nat) (f : Nat → Bool) (k : Nat) (b : Bool) : (boolsL m f).set k (.bool b) = boolsL m (fun i => if i = k then b else f i) := by
  apply List.ext_getElem?
  intro i
  rw [List.getElem?_set]
  by_cases hi : i < m
  · rw [boolsL_get _ hi, boolsL_get _ hi, boolsL_len]
    by_cases e : k = i
    · subst e; simp [hi]
    · rw [if_neg e, if_neg (Ne.symm e)]
  · rw [List.getElem?_eq_none (by rw [boolsL_len]; omega), List.getElem?_eq_none (by rw [boolsL_len]; omega)]
    split
    · rw [if_neg (by rw [boolsL_len]; omega)]
    · rfl
theorem boolsL_congr {m : Nat} {f g : Nat → Bool} (h : ∀ i, i < m → f i = g i) : boolsL m f = boolsL m g := by
  unfold boolsL
  exact List.map_congr_left (fun i hi => by rw [h i (List.mem_range.1 hi)])
end Go.Pu
namespace Go.Proofs.Ytnjdlhhgnamigaa
open Go.RowKit Go.Bs Go.Pu Go.Pl Go.Sort

set_option maxRecDepth 100000 in
theorem Index_any (K N : Nat) (f : Nat → Bool) (w : World) (hN : N ≤ 1000000) (hK : Blk w K 4 (boolsL N f)) (hex : ∃ j, j < N ∧ f j = false) :
    Calls Try.prog 79 #[.slice (some ⟨K, 0, none⟩) N N, .bool false] w fun e w' => ∃ g : Nat, e = .returned (.int .i64 g) ∧ (g < N ∧ (∀ a, a < g → f a = true) ∧ f g = false) ∧ Below w.heap.size w w' := by
  have Hex := Lib.hid hex
  clear hex
  go_enter Try.func79, Try.ntmps79
  go_wp2
  go_loopw [5, 8] (fun _ x wr => ∃ k : Nat, x = .int .i64 k ∧ k ≤ N ∧ Hid (∀ a, a < k → f a = true) ∧ w = wr) (fun _ x _ => N - (intOf x).toNat)
  case atStart => exact ⟨0, rfl, by omega, Lib.hid (fun a h => by omega), rfl⟩
  case round =>
    obtain ⟨k, rfl, hk, Hk, rfl⟩ := hrel
    by_cases hlt : k < N
    · have hlt' : (k : Int) < N := by omega
      have c0 : w.cell? ⟨K, k, none⟩ = _ := hK.cell (boolsL_get f hlt)
      have Hf := Lib.hid (fun h : f k = true => fun a (ha : a < k + 1) => if e : a < k then Hk.out a e else (show a = k by omega) ▸ h)
      have Hg := Lib.hid (fun h : f k = false => (⟨hlt, Hk.out, h⟩ : k < N ∧ (∀ a, a < k → f a = true) ∧ f k = false))
      generalize hfk : f k = b at c0
      have Hfk := Lib.hid hfk
      clear hfk
      cases b
      · have Hg := Lib.hid (Hg.out Hfk.out)
        go_wp2
        go_ret
        exact ⟨k, rfl, Hg.out, Below.refl _ _⟩
      · have Hf := Lib.hid (Hf.out Hfk.out)
        go_wp2
        go_roundw
        case rel => exact ⟨k + 1, by go_num, by omega, Hf, trivial⟩
        case measure => simp [intOf]; omega
    · exfalso
      obtain ⟨j, h1, h2⟩ := Hex.out
      rw [Hk.out j (by omega)] at h2
      cases h2

set_option maxRecDepth 100000 in
set_option maxHeartbeats 4000000 in
theorem Gap_any (t : Tl) (A B : Option Addr) (n c m d : Nat) (w : World) (hn : t.vals.length = n) (hm : t.cnts.length = m) (h1 : n ≤ 1000000) (h2 : m ≤ 1000000) (hA : Cells w A 1 encI t.vals) (hB : Cells w B 1 encI t.cnts) :
    Calls Try.prog 53 #[tlV A n c B m d] w fun e w' => ∃ (g : Nat) (er : Int), e = .returned (.tuple #[.int .i64 g, .int .i64 er]) ∧ ((t.okB = false ∧ g = 0 ∧ er = 1) ∨ (t.okB = true ∧ er = 0 ∧ IsGap (fun a => decide (t.row 0 a ≠ 401)) t.whole g)) ∧ Below w.heap.size w w' := by
  have hb0 := ext_alloc w (.cells #[.slice A n c, .slice B m d] 66)
  have hX0 := Blk.new w 66 [.slice A n c, .slice B m d]
  have hA0 := hA.ext hb0
  have hB0 := hB.ext hb0
  have CV := Lib.hid (fun W hA hB => tvalid_any t A B n c m d W hn hm h1 h2 hA hB)
  have Hn := Lib.hid hn
  have Hm := Lib.hid hm
  clear hA hB hn hm
  unfold tlV at *
  go_enter Try.func53, Try.ntmps53
  go_upto_region 1 with fail
  change Blk (w.alloc (.cells #[.slice A n c, .slice B m d] 66)) _ _ _ at hX0
  generalize w.alloc (.cells #[.slice A n c, .slice B m d] 66) = W0 at *
  have x0 : W0.cell? ⟨w.heap.size, 0, none⟩ = _ := hX0.cell rfl
  have x1 : W0.cell? ⟨w.heap.size, 1, none⟩ = _ := hX0.cell rfl
  go_wp2_with fail
  refine (CV.out _ hA0 hB0).mono ?_; rintro e W1 ⟨rfl, hb1⟩
  have hbw1 := ext_trans hb0 hb1
  have hX1 := hX0.ext hb1
  have hA1 := hA0.ext hb1
  have hB1 := hB0.ext hb1
  clear hb0 hb1 hX0 hA0 hB0 CV x0 x1
  cases hok : t.okB
  · go_wp2
    go_ret2
    exact ⟨0, 1, rfl, .inl ⟨hok, rfl, rfl⟩, hbw1⟩
  have hk := (t.okB_iff).1 hok
  obtain rfl : n = m := by rw [← Hn.out, ← Hm.out]; exact hk.eq.symm
  have hn8 : 1 ≤ n ∧ n ≤ 8 := by have := hk.len; rw [Hn.out] at this; exact this
  have hwb : t.whole ≤ 400000 := by have := Tl.wh_bd hk _ (Nat.le_refl _); have := hk.len; unfold Tl.whole; omega
  have hwn : t.whole = t.wh n := by unfold Tl.whole; rw [Hn.out]
  have Hok := Lib.hid hk
  have HA := Lib.hid (fun i (hi : i < n) => (show i < t.vals.length by rw [Hn.out]; exact hi))
  have HB := Lib.hid (fun i (hi : i < n) => (show i < t.cnts.length by rw [Hm.out]; exact hi))
  have x0 : W1.cell? ⟨w.heap.size, 0, none⟩ = _ := hX1.cell rfl
  have Hwn := Lib.hid hwn
  clear hwn hk
  go_wp2
  clear x0
  go_loopw [4, 5, 6, 17] (fun s _ _ x wr => ∃ k : Nat, x = .int .i64 k ∧ s = .int .i64 (t.wh k : Nat) ∧ k ≤ n ∧ W1 = wr) (fun _ _ _ x _ => n - (intOf x).toNat)
  case atStart => exact ⟨0, rfl, rfl, by omega, rfl⟩
  case round =>
    obtain ⟨k, rfl, rfl, hk, rfl⟩ := hrel
    by_cases hlt : k < n
    · have hlt' : (k : Int) < n := by omega
      obtain ⟨bA, oA, rfl, -, cA⟩ := hA1.at1 (HA.out k hlt) rfl
      obtain ⟨bB, oB, rfl, -, cB⟩ := hB1.at1 (HB.out k hlt) rfl
      rw [Hok.out.v_eq (HA.out k hlt)] at cA
      rw [Hok.out.c_eq (HA.out k hlt)] at cB
      have hv := Hok.out.v_bd (HA.out k hlt)
      have hc := Hok.out.c_bd (HA.out k hlt)
      have hw := Tl.wh_bd Hok.out k (by have := HA.out k hlt; omega)
      have Hs := Lib.hid (show t.wh (k + 1) = t.wh k + t.v k * t.c k from rfl)
      have hpb : t.v k * t.c k ≤ 1000 * 50 := Nat.mul_le_mul hv.2 hc
      generalize hp : t.v k * t.c k = p at *
      have hpi : (t.v k : Int) * (t.c k : Int) = (p : Int) := by rw [← hp]; simp
      generalize t.wh k = s at *
      have x1 : W1.cell? ⟨w.heap.size, 1, none⟩ = _ := hX1.cell rfl
      clear hp
      go_wp2
      go_roundw
      case rel => exact ⟨k + 1, by go_num, by rw [Hs.out]; go_num, by omega, trivial⟩
      case measure => simp [intOf]; omega
    · obtain rfl : k = n := by omega
      rw [← Hwn.out]
      generalize hwh : t.whole = whole at *
      have Hwh := Lib.hid hwh
      clear hwh
      have hmk := fun w => mk101 (whole + 2) (by omega) w
      simp only [Int.natCast_add, show ((2 : Nat) : Int) = 2 from rfl] at hmk
      go_upto_region 10 with fail
      have hK : Blk (W1.alloc (.cells (boolsL (whole + 2) fun _ => false).toArray 4)) W1.heap.size 4 (boolsL (whole + 2) fun _ => false) := Blk.new W1 4 _
      have hb2 := ext_alloc W1 (.cells (boolsL (whole + 2) fun _ => false).toArray 4)
      have hXl := hX1.lt
      generalize W1.alloc (.cells (boolsL (whole + 2) fun _ => false).toArray 4) = W2 at *
      have c0 : W2.cell? ⟨W1.heap.size, 0, none⟩ = _ := hK.cell (boolsL_get (fun _ => false) (show 0 < whole + 2 by omega))
      have f0 := hK.free 0
      have hN0 : (0 : Int) < (whole : Int) + 2 := by omega
      go_upto_region 11 with fail
      have hK2 := hK.set 0 (.bool true)
      rw [boolsL_put, boolsL_congr (g := fun a => decide (a ≤ whole) && t.giv 0 a) (fun a ha => by
        by_cases h0 : a = 0
        · subst h0; simp [Tl.giv]
        · rw [if_neg h0]; simp [Tl.giv, h0])] at hK2
      have hbl2 : Dr.Bel [W1.heap.size] W1 (W2.setCell ⟨W1.heap.size, 0, none⟩ (.bool true)) := (Dr.Bel.of hb2).trans (Dr.Bel.store (by simp) _)
      generalize W2.setCell ⟨W1.heap.size, 0, none⟩ (.bool true) = W3 at *
      clear c0 f0 hK hb2 hmk
      have hX3 := hbl2.blk hX1 (by simp; omega)
      have x0 : W3.cell? ⟨w.heap.size, 0, none⟩ = _ := hX3.cell rfl
      go_wp2
      clear x0
      go_loopw [8, 9, 10, 40, 50] (fun _ _ _ x _ wr => ∃ i : Nat, x = .int .i64 i ∧ i ≤ k ∧ Blk wr W1.heap.size 4 (boolsL (whole + 2) fun a => decide (a ≤ whole) && t.giv i a) ∧ Dr.Bel [W1.heap.size] W1 wr) (fun _ _ _ x _ _ => k - (intOf x).toNat)
      case atStart => exact ⟨0, rfl, by omega, hK2, hbl2⟩
      case round =>
        clear hK2 hbl2
        obtain ⟨i, rfl, hik, hK, hb⟩ := hrel
        by_cases hlt : i < k
        · have hlt' : (i : Int) < k := by omega
          obtain ⟨bA, oA, rfl, hlA, cA⟩ := hA1.at1 (HA.out i hlt) rfl
          obtain ⟨bB, oB, rfl, hlB, cB⟩ := hB1.at1 (HB.out i hlt) rfl
          rw [Hok.out.v_eq (HA.out i hlt)] at cA
          rw [Hok.out.c_eq (HA.out i hlt)] at cB
          have hv := Hok.out.v_bd (HA.out i hlt)
          have hc := Hok.out.c_bd (HA.out i hlt)
          have Hone := Lib.hid (fun q (hq : q < t.c i) => (show t.v i ≤ whole by
            have h3 := t.wh_one (HA.out i hlt)
            rw [Hwh.out] at h3
            have h4 : t.v i * 1 ≤ t.v i * t.c i := Nat.mul_le_mul_left _ (by omega)
            omega))
          have hXr := hb.blk hX1 (by simp; omega)
          have x1 : wr.cell? ⟨w.heap.size, 1, none⟩ = _ := hXr.cell rfl
          have dA := (World.cell?_of_block (hb.block bA hlA (by simp; omega))).trans cA
          have dB := (World.cell?_of_block (hb.block bB hlB (by simp; omega))).trans cB
          have Hnx := Lib.hid (show t.giv (i + 1) = gR (t.v i) (t.giv i) (t.c i) from rfl)
          generalize t.giv i = G0 at *
          generalize t.v i = v at *
          generalize t.c i = cc at *
          have hcc : (cc : Int) ≤ 50 := by omega
          go_wp2
          clear x1 dA dB hXr cA cB
          go_loopw [10, 50] (fun _ x wr => ∃ q : Nat, x = .int .i64 q ∧ q ≤ cc ∧ Blk wr W1.heap.size 4 (boolsL (whole + 2) fun a => decide (a ≤ whole) && gR v G0 q a) ∧ Dr.Bel [W1.heap.size] W1 wr) (fun _ x _ => cc - (intOf x).toNat)
          case atStart => exact ⟨0, rfl, by omega, hK, hb⟩
          case round =>
            clear hK hb
            obtain ⟨q, rfl, hqc, hK, hb⟩ := hrel
            by_cases hlt2 : q < cc
            · have hlt2' : (q : Int) < cc := by omega
              have hvw := Hone.out q hlt2
              have Hst := Lib.hid (show gR v G0 (q + 1) = gStep v (gR v G0 q) from rfl)
              generalize gR v G0 q = G at *
              go_wp2
              go_loopw [10] (fun x wr => ∃ a : Nat, x = .int .i64 a ∧ v ≤ a + 1 ∧ a ≤ whole ∧ Blk wr W1.heap.size 4 (boolsL (whole + 2) fun b => decide (b ≤ whole) && if a < b then gStep v G b else G b) ∧ Dr.Bel [W1.heap.size] W1 wr) (fun x _ => (intOf x).toNat)
              case atStart =>
                refine ⟨whole, rfl, by omega, Nat.le_refl _, ?_, hb⟩
                rw [boolsL_congr (g := fun a => decide (a ≤ whole) && G a) (fun a ha => by
                  by_cases h0 : a ≤ whole
                  · rw [if_neg (by omega)]
                  · rw [decide_eq_false h0]; rfl)]
                exact hK
              case round =>
                clear hK hb
                obtain ⟨a, rfl, hva, haw, hK, hb⟩ := hrel
                have haN : (a : Int) < (whole : Int) + 2 := by omega
                by_cases hlt3 : v ≤ a
                · have hlt3' : (v : Int) ≤ a := by omega
                  obtain ⟨dd, hdd⟩ : ∃ dd : Nat, a - v = dd := ⟨_, rfl⟩
                  have hdi : (a : Int) - (v : Int) = (dd : Int) := by omega
                  have hddN : (dd : Int) < (whole : Int) + 2 := by omega
                  have c0 : wr.cell? ⟨W1.heap.size, a, none⟩ = some (.bool (G a)) := by
                    have h := hK.cell (boolsL_get _ (show a < whole + 2 by omega))
                    rw [h, if_neg (by omega), decide_eq_true haw, Bool.true_and]
                  have c1 : wr.cell? ⟨W1.heap.size, dd, none⟩ = some (.bool (G dd)) := by
                    have h := hK.cell (boolsL_get _ (show dd < whole + 2 by omega))
                    rw [h, if_neg (by omega), decide_eq_true (by omega), Bool.true_and]
                  have f0 := hK.free a
                  have Hfin := Lib.hid (fun (b : Bool) (hb2 : b = (G a || G dd)) => (show Blk (wr.setCell ⟨W1.heap.size, a, none⟩ (.bool b)) W1.heap.size 4 (boolsL (whole + 2) fun x => decide (x ≤ whole) && if a - 1 < x then gStep v G x else G x) by
                    have h := hK.set a (.bool b)
                    rw [boolsL_put] at h
                    rw [boolsL_congr (g := fun i => if i = a then b else decide (i ≤ whole) && if a < i then gStep v G i else G i) (fun i hi => by
                      by_cases e : i = a
                      · subst e
                        rw [if_pos rfl, if_pos (by omega), decide_eq_true haw, Bool.true_and, hb2]
                        unfold gStep
                        rw [decide_eq_true hlt3, Bool.true_and, hdd]
                      · rw [if_neg e]
                        congr 1
                        by_cases e2 : a < i
                        · rw [if_pos e2, if_pos (by omega)]
                        · rw [if_neg e2, if_neg (by omega)])]
                    exact h))
                  have Hbl := Lib.hid (fun (b : Bool) => (show Dr.Bel [W1.heap.size] W1 (wr.setCell ⟨W1.heap.size, a, none⟩ (.bool b)) from hb.put (by simp) _))
                  clear hK hb hdd
                  generalize G a = b1 at *
                  generalize G dd = b2 at *
                  cases b1
                  · have HF := Lib.hid (Hfin.out b2 (by simp))
                    have HB := Lib.hid (Hbl.out b2)
                    go_wp2
                    go_roundw
                    case rel => exact ⟨a - 1, int_congr (by omega), by omega, by omega, HF.out, HB.out⟩
                    case measure => simp [intOf]; omega
                  · have HF := Lib.hid (Hfin.out true (by simp))
                    have HB := Lib.hid (Hbl.out true)
                    go_wp2
                    go_roundw
                    case rel => exact ⟨a - 1, int_congr (by omega), by omega, by omega, HF.out, HB.out⟩
                    case measure => simp [intOf]; omega
                · have hlt3' : ¬ (v : Int) ≤ a := by omega
                  rw [boolsL_congr (g := fun b => decide (b ≤ whole) && gR v G0 (q + 1) b) (fun b hb => by
                    rw [Hst.out]
                    congr 1
                    by_cases e : a < b
                    · rw [if_pos e]
                    · rw [if_neg e, gStep_low v G (by omega)])] at hK
                  have HK := Lib.hid hK
                  clear hK
                  go_wp2
                  go_roundw
                  case rel => exact ⟨q + 1, by go_num, by omega, HK.out, hb⟩
                  case measure => simp [intOf]; omega
            · obtain rfl : q = cc := by omega
              rw [← Hnx.out] at hK
              have HK := Lib.hid hK
              clear hK
              go_wp2
              go_roundw
              case rel => exact ⟨i + 1, by go_num, by omega, HK.out, hb⟩
              case measure => simp [intOf]; omega
        · obtain rfl : i = k := by omega
          have CI := Lib.hid (Index_any W1.heap.size (whole + 2) _ wr (by omega) hK ⟨whole + 1, by omega, by show (decide (whole + 1 ≤ whole) && _) = false; rw [decide_eq_false (by omega)]; rfl⟩)
          have hbw3 : Below w.heap.size w wr := hbw1.trans (hb.old hbw1.size (by simp; omega))
          have Hgi := Lib.hid (fun a => Tl.giv_iff Hok.out a)
          clear hK
          go_wp2_with fail
          refine CI.out.mono ?_; rintro e W4 ⟨g, rfl, ⟨hg1, hg2, hg3⟩, hb4⟩
          clear CI
          have Hg2 := Lib.hid hg2
          have Hg3 := Lib.hid hg3
          clear hg2 hg3
          go_wp2
          go_ret2
          refine ⟨g, 0, rfl, .inr ⟨hok, rfl, ?_⟩, ext_trans hbw3 hb4⟩
          rw [Hwh.out]
          have hR : ∀ a, decide (t.row 0 a ≠ 401) = t.giv i a := fun a => by
            rw [Bool.eq_iff_iff, decide_eq_true_eq, Hgi.out a, Hn.out]
          refine ⟨by omega, fun a ha => ?_, fun hgw => ?_⟩
          · have h := Hg2.out a ha
            rw [Bool.and_eq_true] at h
            rw [hR]; exact h.2
          · have h := Hg3.out
            rw [decide_eq_true hgw, Bool.true_and] at h
            rw [hR]; exact h
end Go.Proofs.Ytnjdlhhgnamigaa

/- Walk: what pieces are worth, and the gap, by the reference. -/
namespace Go.Pu
open Go.Pl
theorem Tl.worth_bad {t : Tl} {l : List Int} {k : Nat} (hk : k < l.length) (h : t.fitB l k = false) : t.worth l = (0, false) := by
  unfold Tl.worth
  rw [if_neg]
  intro h2
  rw [List.all_eq_true] at h2
  have := h2 k (by simpa using hk)
  rw [h] at this
  cases this
theorem Tl.worth_good {t : Tl} {l : List Int} (h : ∀ k, k < l.length → t.fitB l k = true) : t.worth l = (t.sumW l l.length, decide (l.length = t.vals.length)) := by
  unfold Tl.worth
  rw [if_pos]
  rw [List.all_eq_true]
  intro k hk
  exact h k (by simpa using hk)
theorem Tl.sumW_succ (t : Tl) (l : List Int) (k : Nat) : t.sumW l (k + 1) = t.sumW l k + l.getD k 0 * t.v k := by
  unfold Tl.sumW
  have e2 : tab (k + 1) (fun i => l.getD i 0 * (t.v i : Int)) = tab k (fun i => l.getD i 0 * (t.v i : Int)) ++ [l.getD k 0 * (t.v k : Int)] := by simp [tab, List.range_succ]
  rw [e2, isum_append]
  simp [isum]
theorem Tl.sumW_bd {t : Tl} (ht : t.ok) {l : List Int} : ∀ k, k ≤ t.vals.length → (∀ j, j < k → t.fitB l j = true) → 0 ≤ t.sumW l k ∧ t.sumW l k ≤ k * 50000
  | 0, _, _ => by simp [Tl.sumW, tab, isum]
  | k + 1, hk, h => by
    have h1 := Tl.sumW_bd ht (l := l) k (by omega) (fun j hj => h j (by omega))
    have h2 := h k (by omega)
    unfold Tl.fitB at h2
    simp only [Bool.and_eq_true, decide_eq_true_eq] at h2
    have h3 := ht.v_bd (i := k) (by omega)
    have h4 := ht.c_bd (i := k) (by omega)
    have h5 := mul_bd (a := l.getD k 0) (m := 50) (b := (t.v k : Int)) (n := 1000) h2.2.1 (by omega) (by omega) (by omega)
    rw [Tl.sumW_succ]
    rw [show ((k + 1 : Nat) : Int) * 50000 = (k : Int) * 50000 + 50000 by omega]
    omega
theorem Tl.giv_zero (t : Tl) : ∀ k, t.giv k 0 = true
  | 0 => by simp [Tl.giv]
  | k + 1 => by
    show gR (t.v k) (t.giv k) (t.c k) 0 = true
    rw [gR_iff]
    exact ⟨0, by omega, by omega, by simpa using Tl.giv_zero t k⟩
theorem Tl.row_zero {t : Tl} (h : t.ok) : t.row 0 0 ≠ 401 := (Tl.giv_iff h 0).2 (t.giv_zero _)
end Go.Pu
namespace Go.Proofs.Ytnjdlhhgnamigaa
open Go.RowKit Go.Bs Go.Pu Go.Pl Go.Sort

set_option maxRecDepth 100000 in
set_option maxHeartbeats 4000000 in
theorem Worth_any (t : Tl) (hok : t.ok) (A B : Option Addr) (n c d : Nat) (F : Option Addr) (q f : Nat) (l : List Int) (w : World) (hn : t.vals.length = n) (hq : l.length = q) (hA : Cells w A 1 encI t.vals) (hB : Cells w B 1 encI t.cnts) (hF : Cells w F 1 encI l) (hq9 : q ≤ 9223372036854775807) :
    Calls Try.prog 54 #[tlV A n c B n d, .slice F q f] w fun e w' => e = .returned (.tuple #[.int .i64 (t.worth l).1, .bool (t.worth l).2]) ∧ Below w.heap.size w w' := by
  have hb0 := ext_alloc w (.cells #[.slice A n c, .slice B n d] 62)
  have hX := Blk.new w 62 [.slice A n c, .slice B n d]
  have hA0 := hA.ext hb0
  have hB0 := hB.ext hb0
  have hF0 := hF.ext hb0
  have hn8 : 1 ≤ n ∧ n ≤ 8 := by have := hok.len; rw [hn] at this; exact this
  have Hbad := Lib.hid (fun k (hk : k < q) (h : t.fitB l k = false) => Tl.worth_bad (t := t) (l := l) (by rw [hq]; exact hk) h)
  have Hgood := Lib.hid (fun (h : ∀ k, k < q → t.fitB l k = true) => (Tl.worth_good (t := t) (l := l) (by rw [hq]; exact h)))
  rw [hq, hn] at Hgood
  have Hok := Lib.hid hok
  have Hn := Lib.hid hn
  have Hq := Lib.hid hq
  clear hA hB hF hok hn hq
  generalize hres : t.worth l = res at *
  obtain ⟨sm, fb⟩ := res
  unfold tlV
  clear hres
  go_enter Try.func54, Try.ntmps54
  go_upto_region 1 with fail
  change Blk (w.alloc (.cells #[.slice A n c, .slice B n d] 62)) _ _ _ at hX
  generalize w.alloc (.cells #[.slice A n c, .slice B n d] 62) = W0 at *
  go_wp2
  go_loopw [6, 7] (fun s x wr => ∃ (k : Nat) (S : Int), x = .int .i64 k ∧ s = .int .i64 S ∧ k ≤ q ∧ Hid (S = t.sumW l k) ∧ Hid (∀ j, j < k → t.fitB l j = true) ∧ Below W0.heap.size W0 wr) (fun _ x _ => q - (intOf x).toNat)
  case atStart => exact ⟨0, 0, rfl, rfl, by omega, Lib.hid (by simp [Tl.sumW, tab, isum]), Lib.hid (fun j h => by omega), Below.refl _ _⟩
  case round =>
    obtain ⟨k, S, rfl, rfl, hk, HS, Hf, hb⟩ := hrel
    by_cases hlt : k < q
    · have hlt' : (k : Int) < q := by omega
      have kq : k < l.length := by rw [Hq.out]; exact hlt
      have hgd : l.getD k 0 = l[k] := by simp [kq]
      by_cases hkn : k < n
      · have hkn' : ¬ (n : Int) ≤ k := by omega
        have hkn2 : (k : Int) < n := by omega
        have hit : k < t.vals.length := by rw [Hn.out]; exact hkn
        have hic : k < t.cnts.length := by rw [Hok.out.eq]; exact hit
        have hsb := Tl.sumW_bd Hok.out (l := l) k (by omega) Hf.out
        rw [← HS.out] at hsb
        have hv := Hok.out.v_bd hit
        have hc := Hok.out.c_bd hit
        have Hfk := Lib.hid (show t.fitB l k = (decide (k < t.vals.length) && decide (0 ≤ l[k] ∧ l[k] ≤ t.c k)) by unfold Tl.fitB; rw [hgd])
        have Hsum := Lib.hid (show t.sumW l (k + 1) = S + l[k] * t.v k by rw [Tl.sumW_succ, HS.out, hgd])
        have Hk := Lib.hid hit
        go_upto_region 5 with fail
        refine Dr.wp_region_plan 18 [] (.q [0, 1, 2, 3, 4, 5, 6, 7, 8, 9, 10, 11, 12, 13, 14] (.e1 15 (.q [16, 17] .done))) (by kernel_rfl) (by kernel_rfl) ?_
        have hb2 := hb.drew
        clear hb
        generalize World.drew _ = V at *
        obtain ⟨o1, p1, rfl, -, d1⟩ := (hF0.ext hb2).at1 kq rfl
        obtain ⟨o2, p2, rfl, -, d2⟩ := (hB0.ext hb2).at1 hic rfl
        obtain ⟨o3, p3, rfl, -, d3⟩ := (hA0.ext hb2).at1 hit rfl
        rw [Hok.out.c_eq hit] at d2
        rw [Hok.out.v_eq hit] at d3
        clear hit hic
        generalize l[k] = x at *
        have u1 := Dr.cell0 d1
        have u2 := Dr.cell0 d2
        have x0 := Dr.cell0 ((hX.ext hb2).cell (i := 0) rfl)
        have x1 := Dr.cell0 ((hX.ext hb2).cell (i := 1) rfl)
        have CI := Lib.hid (fun W => In_any x 0 (t.c k) W)
        generalize hbi : decide (0 ≤ x ∧ x ≤ (t.c k : Int)) = bi at *
        have Hbi := Lib.hid hbi
        clear hgd hbi
        refine Dr.plan_q (l := [_, _, _, _, _, _, _, _, _, _, _, _, _, _, _]) rfl (fun K hK => ?_)
        iterate 15 (go_big_quiet_step (fail))
        refine wpQuiet_nil (hK _ ?_); clear hK K
        clear u1 u2 x0 x1
        refine Dr.plan_e rfl (by rfl) (fun K hK => ?_)
        go_wp2_with fail
        refine (CI.out _).mono ?_; rintro e w1 ⟨rfl, rfl⟩
        go_wp2
        refine hK _ _ (Dr.Bel.refl _ _) ?_; clear hK K
        cases bi
        rotate_left
        · have Hfit := Lib.hid (show t.fitB l k = true by rw [Hfk.out, decide_eq_true Hk.out]; rfl)
          have hin := of_decide_eq_true Hbi.out
          refine Dr.plan_q (l := [_, _]) rfl (fun K hK => ?_)
          iterate 2 (go_big_quiet_step (fail))
          refine wpQuiet_nil (hK _ ?_); clear hK K
          refine Dr.plan_end rfl ?_
          go_upto_region 7 with fail
          have hxv := mul_bd (a := x) (m := 50) (b := (t.v k : Int)) (n := 1000) hin.1 (by omega) (by omega) (by omega)
          refine Dr.wp_region_plan 13 [] (.q [0, 1, 2, 3, 4, 5, 6, 7, 8, 9, 10, 11, 12] .done) (by kernel_rfl) (by kernel_rfl) ?_
          have hb3 := hb2.drew
          have d4 : (World.drew V).cell? ⟨o1, p1 + k, none⟩ = some (.int .i64 x) := d1
          have d5 : (World.drew V).cell? ⟨o3, p3 + k, none⟩ = some (.int .i64 (t.v k : Nat)) := d3
          clear d1 d2 d3 hb2
          generalize World.drew _ = V2 at *
          have u1 := Dr.cell0 d4
          have u2 := Dr.cell0 d5
          have x0 := Dr.cell0 ((hX.ext hb3).cell (i := 0) rfl)
          refine Dr.plan_q (l := [_, _, _, _, _, _, _, _, _, _, _, _, _]) rfl (fun K hK => ?_)
          iterate 13 (go_big_quiet_step (fail))
          refine wpQuiet_nil (hK _ ?_); clear hK K
          refine Dr.plan_end rfl ?_
          clear u1 u2 x0
          go_wp2
          go_roundw
          case rel => exact ⟨k + 1, _, by go_num, rfl, by omega, Lib.hid (by rw [Hsum.out]), Lib.hid (fun j hj => if e : j < k then Hf.out j e else (show j = k by omega) ▸ Hfit.out), hb3⟩
          case measure => simp [intOf]; omega
        · have Hfit := Lib.hid (show t.fitB l k = false by rw [Hfk.out, Bool.and_false])
          refine Dr.plan_q (l := [_, _]) rfl (fun K hK => ?_)
          iterate 2 (go_big_quiet_step (fail))
          refine wpQuiet_nil (hK _ ?_); clear hK K
          refine Dr.plan_end rfl ?_
          have hr := Hbad.out k hlt Hfit.out
          obtain ⟨rfl, rfl⟩ := Prod.mk.injEq .. ▸ hr
          clear hr
          go_wp2
          go_ret2
          exact ⟨rfl, ext_trans hb0 hb2⟩
      · have hkn' : (n : Int) ≤ k := by omega
        have Hfit := Lib.hid (show t.fitB l k = false by unfold Tl.fitB; rw [decide_eq_false (by rw [Hn.out]; exact hkn), Bool.false_and])
        have hr := Hbad.out k hlt Hfit.out
        obtain ⟨rfl, rfl⟩ := Prod.mk.injEq .. ▸ hr
        clear hr hgd
        go_upto_region 5 with fail
        refine Dr.wp_region_plan 18 [] (.q [0, 1, 2, 3, 4, 5, 6, 7, 8, 9, 10, 11, 12, 13, 14] (.e1 15 (.q [16, 17] .done))) (by kernel_rfl) (by kernel_rfl) ?_
        have hb2 := hb.drew
        clear hb
        generalize World.drew _ = V at *
        have x0 := Dr.cell0 ((hX.ext hb2).cell (i := 0) rfl)
        refine Dr.plan_q (l := [_, _, _, _, _, _, _, _, _, _, _, _, _, _, _]) rfl (fun K hK => ?_)
        iterate 15 (go_big_quiet_step (fail))
        refine wpQuiet_nil (hK _ ?_); clear hK K
        clear x0
        with_reducible refine Dr.plan_e_skip (by with_unfolding_all exact rfl) (by with_unfolding_all rfl) ?_
        go_frame
        with_reducible refine Dr.plan_q (l := [_, _]) (by with_unfolding_all exact rfl) (fun K hK => ?_)
        iterate 2 (go_big_quiet_step (fail))
        refine wpQuiet_nil (hK _ ?_); clear hK K
        refine Dr.plan_end rfl ?_
        go_wp2
        go_ret2
        exact ⟨rfl, ext_trans hb0 hb2⟩
    · obtain rfl : k = q := by omega
      have hr := Hgood.out Hf.out
      obtain ⟨h1, h2⟩ := Prod.mk.injEq .. ▸ hr
      have Hr := Lib.hid hr
      have H1 := Lib.hid h1
      have H2 := Lib.hid h2
      clear hr h1 h2
      go_upto_region 8 with fail
      refine Dr.wp_region_plan 9 [] (.q [0, 1, 2, 3, 4, 5, 6, 7, 8] .done) (by kernel_rfl) (by kernel_rfl) ?_
      have hb2 := hb.drew
      clear hb
      generalize World.drew _ = V at *
      have x0 := Dr.cell0 ((hX.ext hb2).cell (i := 0) rfl)
      refine Dr.plan_q (l := [_, _, _, _, _, _, _, _, _]) rfl (fun K hK => ?_)
      iterate 9 (go_big_quiet_step (fail))
      refine wpQuiet_nil (hK _ ?_); clear hK K
      refine Dr.plan_end rfl ?_
      clear x0
      go_wp2
      go_ret2
      obtain rfl : sm = S := by rw [H1.out, HS.out]
      obtain rfl : fb = ((k : Int) == (n : Int)) := by rw [H2.out, Bool.eq_iff_iff, beq_iff_eq, decide_eq_true_eq]; omega
      exact ⟨rfl, ext_trans hb0 hb2⟩

set_option maxRecDepth 100000 in
set_option maxHeartbeats 4000000 in
theorem GapR_any (t : Tl) (hok : t.ok) (A B : Option Addr) (n c d : Nat) (w : World) (hn : t.vals.length = n) (hwb : t.whole ≤ 5000) (hA : Cells w A 1 encI t.vals) (hB : Cells w B 1 encI t.cnts) :
    Calls Try.prog 55 #[tlV A n c B n d] w fun e w' => ∃ g : Nat, e = .returned (.int .i64 g) ∧ IsGap (fun a => decide (t.row 0 a ≠ 401)) t.whole g ∧ Below w.heap.size w w' := by
  have hb0 := ext_alloc w (.cells #[.slice A n c, .slice B n d] 62)
  have hX := Blk.new w 62 [.slice A n c, .slice B n d]
  have hA0 := hA.ext hb0
  have hB0 := hB.ext hb0
  have hn8 : 1 ≤ n ∧ n ≤ 8 := by have := hok.len; rw [hn] at this; exact this
  have CW := fun W hA hB => Worth_any t hok A B n c d B n d t.cnts W hn (hok.eq.trans hn) hA hB hB (by omega)
  have CF := fun W hA hB => Fewest_any t hok A B n c d 0 t.whole W hn (Nat.zero_le _) hwb hA hB
  rw [Tl.worth_self hok] at CW
  rw [show ((0 : Nat) : Int) = 0 from rfl] at CF
  unfold tlV at *
  have CW := Lib.hid CW
  have CF := Lib.hid CF
  have Hz := Lib.hid (Tl.row_zero hok)
  have Hrb := Lib.hid (fun a => Tl.row_bd hok 0 a)
  clear hA hB hn hok
  generalize t.whole = whole at *
  go_enter Try.func55, Try.ntmps55
  go_upto_region 1 with fail
  change Blk (w.alloc (.cells #[.slice A n c, .slice B n d] 62)) _ _ _ at hX
  generalize w.alloc (.cells #[.slice A n c, .slice B n d] 62) = W0 at *
  have x0 : W0.cell? ⟨w.heap.size, 0, none⟩ = _ := hX.cell rfl
  have x1 : W0.cell? ⟨w.heap.size, 1, none⟩ = _ := hX.cell rfl
  go_wp2_with fail
  refine (CW.out _ hA0 hB0).mono ?_; rintro e W1 ⟨rfl, hb1⟩
  have hbw1 := ext_trans hb0 hb1
  have hX1 := hX.ext hb1
  have hA1 := hA0.ext hb1
  have hB1 := hB0.ext hb1
  clear hb0 hX hA0 hB0 hb1 x0 x1 CW
  have x0 : W1.cell? ⟨w.heap.size, 0, none⟩ = _ := hX1.cell rfl
  have x1 : W1.cell? ⟨w.heap.size, 1, none⟩ = _ := hX1.cell rfl
  go_wp2_with fail
  refine (CF.out _ hA1 hB1).mono ?_; rintro e W2 ⟨G, rfl, -, hG, hb2⟩
  have hbw2 := ext_trans hbw1 hb2
  clear hbw1 hb2 hX1 hA1 hB1 x0 x1 CF
  go_wp2
  go_loopw [6] (fun x wr => ∃ a : Nat, x = .int .i64 a ∧ 1 ≤ a ∧ a ≤ whole + 1 ∧ Hid (∀ b, b < a → t.row 0 b ≠ 401) ∧ W2 = wr) (fun x _ => whole + 1 - (intOf x).toNat)
  case atStart => exact ⟨1, rfl, by omega, by omega, Lib.hid (fun b hb => (show b = 0 by omega) ▸ Hz.out), rfl⟩
  case round =>
    obtain ⟨a, rfl, ha1, ha2, Ha, rfl⟩ := hrel
    by_cases hlt : a ≤ whole
    · have hlt' : (a : Int) ≤ whole := by omega
      have haN : (a : Int) < (whole : Int) + 1 := by omega
      have g0 : W2.cell? ⟨G, a, none⟩ = some (.int .i64 (encF (t.row 0 a))) := hG.cell (tab_get _ (by omega))
      have hrb := Hrb.out a
      by_cases h401 : t.row 0 a = 401
      · rw [show encF (t.row 0 a) = -1 by unfold encF; rw [if_pos h401]] at g0
        have H4 := Lib.hid h401
        clear h401
        go_wp2
        go_ret
        exact ⟨a, rfl, ⟨by omega, fun b hb => by simpa using Ha.out b hb, fun _ => by rw [H4.out]; simp⟩, hbw2⟩
      · rw [show encF (t.row 0 a) = t.row 0 a by unfold encF; rw [if_neg h401]] at g0
        have H4 := Lib.hid h401
        clear h401
        have HH := Lib.hid (show ∀ b, b < a + 1 → t.row 0 b ≠ 401 from fun b hb => if e : b < a then Ha.out b e else (show b = a by omega) ▸ H4.out)
        generalize t.row 0 a = y at *
        have hy : ¬ y < 0 := by omega
        go_wp2
        go_roundw
        case rel => exact ⟨a + 1, by go_num, by omega, by omega, HH, trivial⟩
        case measure => simp [intOf]; omega
    · obtain rfl : a = whole + 1 := by omega
      have hlt' : ¬ (whole : Int) + 1 ≤ whole := by omega
      go_wp2
      go_ret
      exact ⟨whole + 1, by go_num, ⟨by omega, fun b hb => by simpa using Ha.out b hb, fun h => by omega⟩, hbw2⟩
end Go.Proofs.Ytnjdlhhgnamigaa

/- Tills: the program's way is worth the amount, and has the fewest pieces; more pieces, no lesser gap: as plain data. -/
namespace Go.Pu
open Go.Pl
theorem tab_cons (n : Nat) (f : Nat → Int) : tab (n + 1) f = f 0 :: tab n fun i => f (i + 1) := by
  simp [tab, List.range_succ_eq_map, List.map_map, Function.comp_def]
def Tl.sf (t : Tl) : Nat → List Int → Int
  | _, [] => 0
  | i, x :: l => x * t.v i + t.sf (i + 1) l
def Tl.ff (t : Tl) : Nat → List Int → Bool
  | _, [] => true
  | i, x :: l => (decide (i < t.vals.length) && decide (0 ≤ x ∧ x ≤ t.c i)) && t.ff (i + 1) l
theorem Tl.sf_eq (t : Tl) : ∀ (l : List Int) (i : Nat), isum (tab l.length fun k => l.getD k 0 * t.v (i + k)) = t.sf i l
  | [], i => by simp [tab, isum, Tl.sf]
  | x :: l, i => by
    have ih := Tl.sf_eq t l (i + 1)
    rw [List.length_cons, tab_cons]
    show x * (t.v (i + 0) : Int) + isum (tab l.length fun k => l.getD k 0 * t.v (i + (k + 1))) = x * t.v i + t.sf (i + 1) l
    rw [← ih]
    simp only [Nat.add_zero, Nat.add_assoc, Nat.add_comm 1]
theorem Tl.ff_eq (t : Tl) : ∀ (l : List Int) (i : Nat), (List.range l.length).all (fun k => decide (i + k < t.vals.length) && decide (0 ≤ l.getD k 0 ∧ l.getD k 0 ≤ t.c (i + k))) = t.ff i l
  | [], i => by simp [Tl.ff]
  | x :: l, i => by
    have ih := Tl.ff_eq t l (i + 1)
    rw [List.length_cons, List.range_succ_eq_map, List.all_cons, List.all_map]
    unfold Tl.ff
    rw [← ih]
    simp only [Nat.add_zero, List.getD_cons_zero, Function.comp_def, List.getD_cons_succ, Nat.succ_eq_add_one, Nat.add_assoc, Nat.add_comm 1]
theorem Tl.worth_eq (t : Tl) (l : List Int) : t.worth l = if t.ff 0 l then (t.sf 0 l, decide (l.length = t.vals.length)) else (0, false) := by
  have h1 := t.ff_eq l 0
  have h2 := t.sf_eq l 0
  simp only [Nat.zero_add] at h1 h2
  unfold Tl.worth Tl.sumW
  rw [h2]
  have h3 : (List.range l.length).all (t.fitB l) = t.ff 0 l := h1
  rw [h3]
section
variable {t : Tl}
/-- the program's way -/
theorem Tl.chg_spec (h : t.ok) : ∀ (m i a : Nat), i + m = t.vals.length → t.row i a ≠ 401 →
    (t.chg m a (t.row i a)).length = m ∧ t.ff i ((t.chg m a (t.row i a)).map Int.ofNat) = true ∧ t.sf i ((t.chg m a (t.row i a)).map Int.ofNat) = a ∧ isum ((t.chg m a (t.row i a)).map Int.ofNat) = t.row i a
  | 0, i, a, hi, hne => by
    obtain rfl : i = t.vals.length := by omega
    rw [t.row_end] at hne ⊢
    split at hne
    · rename_i e; subst e; simp [Tl.chg, Tl.ff, Tl.sf, isum]
    · exact absurd rfl hne
  | m + 1, i, a, hi, hne => by
    have hit : i < t.vals.length := by omega
    have hs := Tl.take_spec h hit hne
    have hb := Tl.row_bd h i a
    have hb2 := Tl.row_bd h (i + 1) (a - t.take i a (t.row i a) * t.v i)
    have e : t.chg (m + 1) a (t.row i a) = t.take i a (t.row i a) :: t.chg m (a - t.take i a (t.row i a) * t.v i) (t.row i a - t.take i a (t.row i a)) := by
      show t.take (t.vals.length - 1 - m) a (t.row i a) :: t.chg m (a - t.take (t.vals.length - 1 - m) a (t.row i a) * t.v (t.vals.length - 1 - m)) (t.row i a - t.take (t.vals.length - 1 - m) a (t.row i a)) = _
      rw [show t.vals.length - 1 - m = i by omega]
    rw [e, ← hs.2.2]
    obtain ⟨h1, h2, h3, h4⟩ := Tl.chg_spec h m (i + 1) (a - t.take i a (t.row i a) * t.v i) (by omega) (by omega)
    refine ⟨by rw [List.length_cons, h1], ?_, ?_, ?_⟩
    · rw [List.map_cons]
      unfold Tl.ff
      rw [h2, decide_eq_true hit, decide_eq_true (by show 0 ≤ ((t.take i a (t.row i a) : Nat) : Int) ∧ ((t.take i a (t.row i a) : Nat) : Int) ≤ t.c i; omega)]
      rfl
    · rw [List.map_cons]
      unfold Tl.sf
      rw [h3]
      show ((t.take i a (t.row i a) : Nat) : Int) * t.v i + ((a - t.take i a (t.row i a) * t.v i : Nat) : Int) = a
      rw [Int.natCast_sub hs.2.1, Int.natCast_mul]
      omega
    · rw [List.map_cons]
      unfold isum
      rw [h4, hs.2.2]
      show ((t.take i a (t.row i a) : Nat) : Int) + _ = _
      omega
theorem Tl.sf_nonneg (h : t.ok) : ∀ (l : List Int) (i : Nat), t.ff i l = true → 0 ≤ t.sf i l
  | [], _, _ => by simp [Tl.sf]
  | x :: l, i, hf => by
    unfold Tl.ff at hf
    simp only [Bool.and_eq_true, decide_eq_true_eq] at hf
    have := Tl.sf_nonneg h l (i + 1) hf.2
    have := Int.mul_nonneg hf.1.2.1 (show (0 : Int) ≤ (t.v i : Int) by omega)
    unfold Tl.sf
    omega
/-- no way has fewer pieces -/
theorem Tl.least (h : t.ok) : ∀ (l : List Int) (i a : Nat), i + l.length = t.vals.length → t.ff i l = true → t.sf i l = a → t.row i a ≠ 401 ∧ t.row i a ≤ isum l
  | [], i, a, hi, _, hs => by
    obtain rfl : i = t.vals.length := by simpa using hi
    have : a = 0 := by
      have h2 : t.sf t.vals.length [] = 0 := rfl
      rw [h2] at hs
      omega
    subst this
    rw [t.row_end]
    simp [isum]
  | x :: l, i, a, hi, hf, hs => by
    unfold Tl.ff at hf
    simp only [Bool.and_eq_true, decide_eq_true_eq] at hf
    obtain ⟨⟨hit, hx0, hxc⟩, hf⟩ := hf
    have hs : x * t.v i + t.sf (i + 1) l = a := hs
    have hn := Tl.sf_nonneg h l (i + 1) hf
    obtain ⟨b, hb⟩ : ∃ b : Nat, t.sf (i + 1) l = b := ⟨(t.sf (i + 1) l).toNat, by omega⟩
    obtain ⟨n, rfl⟩ : ∃ n : Nat, x = n := ⟨x.toNat, by omega⟩
    have hi2 : i + 1 + l.length = t.vals.length := by simp at hi; omega
    obtain ⟨h1, h2⟩ := Tl.least h l (i + 1) b hi2 hf hb
    rw [hb] at hs
    have hnv : n * t.v i + b = a := by
      have : ((n * t.v i + b : Nat) : Int) = a := by rw [Int.natCast_add, Int.natCast_mul]; exact hs
      omega
    have hab : a - n * t.v i = b := by omega
    have hnc : n ≤ t.c i := by omega
    have hr : t.row i a ≠ 401 := (Tl.row_iff h hit a).2 ⟨n, hnc, by omega, by rw [hab]; exact h1⟩
    refine ⟨hr, ?_⟩
    have hw : n < t.ways i a := by
      rcases Nat.lt_or_ge n (t.ways i a) with h4 | h4
      · exact h4
      · rcases Tl.ways_no h hit (q := n) (Nat.not_lt.2 h4) with h5 | ⟨_, h5⟩
        · exact absurd hnc (Nat.not_le.2 h5)
        · exact absurd (show n * t.v i ≤ a by omega) (Nat.not_le.2 h5)
    have h6 := (bestN_le (t.row (i + 1)) (t.v i) a (t.ways i a)).2 n hw
    rw [t.row_eq hit]
    rw [hab] at h6
    unfold isum
    omega
theorem Tl.worth_least (h : t.ok) {l : List Int} {a : Nat} (hw : t.worth l = ((a : Int), true)) : t.row 0 a ≠ 401 ∧ t.row 0 a ≤ isum l := by
  rw [t.worth_eq] at hw
  split at hw
  · rename_i hf
    simp only [Prod.mk.injEq, decide_eq_true_eq] at hw
    exact Tl.least h l 0 a (by omega) hf hw.1
  · simp at hw
theorem Tl.chg_worth (h : t.ok) {a : Nat} (hne : t.row 0 a ≠ 401) : t.worth ((t.chg t.vals.length a (t.row 0 a)).map Int.ofNat) = ((a : Int), true) ∧ isum ((t.chg t.vals.length a (t.row 0 a)).map Int.ofNat) = t.row 0 a := by
  obtain ⟨h1, h2, h3, h4⟩ := Tl.chg_spec h t.vals.length 0 a (by omega) hne
  refine ⟨?_, h4⟩
  rw [t.worth_eq, if_pos h2, h3, List.length_map, h1]
  simp
theorem Tl.giv_le (h : t.ok) : ∀ i a, t.giv i a = true → a ≤ t.wh i
  | 0, a, hg => by
    have : a = 0 := by simpa [Tl.giv] using hg
    subst this; exact Nat.zero_le _
  | i + 1, a, hg => by
    have hg : gR (t.v i) (t.giv i) (t.c i) a = true := hg
    rw [gR_iff] at hg
    obtain ⟨n, h1, h2, h3⟩ := hg
    have h4 := Tl.giv_le h i _ h3
    have h5 : n * t.v i ≤ t.c i * t.v i := Nat.mul_le_mul_right _ h1
    show a ≤ t.wh i + t.v i * t.c i
    rw [Nat.mul_comm (t.v i)]
    omega
theorem Tl.row_le (h : t.ok) {a : Nat} (hr : t.row 0 a ≠ 401) : a ≤ t.whole := Tl.giv_le h _ _ ((Tl.giv_iff h a).1 hr)
theorem Tl.gap_pos (h : t.ok) {g : Nat} (hg : IsGap (fun a => decide (t.row 0 a ≠ 401)) t.whole g) : 1 ≤ g := by
  rcases Nat.lt_or_ge 0 g with h1 | h1
  · exact h1
  · obtain rfl : g = 0 := by omega
    have := hg.hi (Nat.zero_le _)
    simp [Tl.row_zero h] at this
theorem Tl.gap_not (h : t.ok) {g : Nat} (hg : IsGap (fun a => decide (t.row 0 a ≠ 401)) t.whole g) : t.row 0 g = 401 := by
  apply Decidable.byContradiction
  intro hne
  have h1 := Tl.row_le h hne
  have h2 := hg.hi h1
  simp [hne] at h2
theorem Tl.gap_below {g a : Nat} (hg : IsGap (fun a => decide (t.row 0 a ≠ 401)) t.whole g) (ha : a < g) : t.row 0 a ≠ 401 := by simpa using hg.lo a ha
/-- one piece more -/
def Tl.inc (t : Tl) (k : Nat) : Tl := ⟨t.vals, t.cnts.set k (t.cnts.getD k 0 + 1)⟩
theorem Tl.inc_v (t : Tl) (k i : Nat) : (t.inc k).v i = t.v i := rfl
theorem Tl.inc_ok (h : t.ok) {k : Nat} (hk : k < t.cnts.length) (h50 : t.cnts.getD k 0 ≠ 50) : (t.inc k).ok := by
  have hc := h.cnt (t.cnts.getD k 0) (by rw [List.getD_eq_getElem?_getD, List.getElem?_eq_getElem hk]; exact List.getElem_mem hk)
  refine ⟨h.len, by show (t.cnts.set _ _).length = _; rw [List.length_set]; exact h.eq, h.rng, h.fal, fun c hm => ?_⟩
  rcases List.mem_or_eq_of_mem_set hm with h1 | rfl
  · exact h.cnt c h1
  · omega
theorem Tl.inc_c (h : t.ok) {k : Nat} (hk : k < t.cnts.length) (i : Nat) : t.c i ≤ (t.inc k).c i := by
  have hc := h.cnt (t.cnts.getD k 0) (by rw [List.getD_eq_getElem?_getD, List.getElem?_eq_getElem hk]; exact List.getElem_mem hk)
  show (t.cnts.getD i 0).toNat ≤ ((t.cnts.set k (t.cnts.getD k 0 + 1)).getD i 0).toNat
  by_cases e : k = i
  · subst e
    rw [List.getD_eq_getElem?_getD (l := t.cnts.set _ _), List.getElem?_set_self hk, Option.getD_some]
    omega
  · rw [List.getD_eq_getElem?_getD (l := t.cnts.set _ _), List.getElem?_set_ne e, ← List.getD_eq_getElem?_getD]
    exact Nat.le_refl _
theorem Tl.inc_giv (h : t.ok) {k : Nat} (hk : k < t.cnts.length) : ∀ i a, t.giv i a = true → (t.inc k).giv i a = true
  | 0, _, hg => hg
  | i + 1, a, hg => by
    have hg : gR (t.v i) (t.giv i) (t.c i) a = true := hg
    rw [gR_iff] at hg
    obtain ⟨n, h1, h2, h3⟩ := hg
    show gR (t.v i) ((t.inc k).giv i) ((t.inc k).c i) a = true
    rw [gR_iff]
    exact ⟨n, Nat.le_trans h1 (Tl.inc_c h hk i), h2, Tl.inc_giv h hk i _ h3⟩
theorem Tl.inc_wh (h : t.ok) {k : Nat} (hk : k < t.cnts.length) : ∀ i, t.wh i ≤ (t.inc k).wh i
  | 0 => Nat.le_refl _
  | i + 1 => by
    have := Tl.inc_wh h hk i
    have := Nat.mul_le_mul_left (t.v i) (Tl.inc_c h hk i)
    show t.wh i + t.v i * t.c i ≤ (t.inc k).wh i + t.v i * (t.inc k).c i
    omega
theorem Tl.inc_gap (h : t.ok) {k : Nat} (hk : k < t.cnts.length) (h50 : t.cnts.getD k 0 ≠ 50) {g g2 : Nat} (hg : IsGap (fun a => decide (t.row 0 a ≠ 401)) t.whole g) (hg2 : IsGap (fun a => decide ((t.inc k).row 0 a ≠ 401)) (t.inc k).whole g2) : g ≤ g2 := by
  rcases Nat.lt_or_ge g2 g with h1 | h1
  · exfalso
    have h2 := Tl.gap_below hg h1
    have h3 := Tl.inc_giv h hk _ _ ((Tl.giv_iff h g2).1 h2)
    have h4 := (Tl.giv_iff (Tl.inc_ok h hk h50) g2).2 h3
    have h5 := Tl.inc_wh h hk t.vals.length
    have h6 : t.whole ≤ (t.inc k).whole := h5
    have h7 := hg2.hi (by have := hg.le; omega)
    simp [h4] at h7
  · exact h1
end
end Go.Pu
