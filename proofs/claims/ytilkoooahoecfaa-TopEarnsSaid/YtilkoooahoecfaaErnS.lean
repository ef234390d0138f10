/- Walks: route: the ranges of a town that is right: in, valid$1, valid$2, all[Range] with a last range. -/
import Derived.Test.YtilkoooahoecfaaErnR
import Derived.Test.YtilkoooahoecfaaErnG
namespace Go.Er
open Go.RowKit Go.Bs
def lastv (l : List (Int × Int)) : Nat → Int
  | 0 => -1
  | k + 1 => (l.getD k (0, 0)).2
theorem last_ok {l : List (Int × Int)} {days : Int} (hd : 1 ≤ days ∧ days ≤ 60) (h : opnOk l days l.length) {k : Nat} (hk : k ≤ l.length) : -1 ≤ lastv l k ∧ lastv l k ≤ 60 := by
  cases k with
  | zero =>
    show -1 ≤ (-1 : Int) ∧ (-1 : Int) ≤ 60
    omega
  | succ k =>
    have := h.1 k (by omega)
    show -1 ≤ (l.getD k (0, 0)).2 ∧ (l.getD k (0, 0)).2 ≤ 60
    omega
theorem last_lt {l : List (Int × Int)} {days : Int} (h : opnOk l days l.length) {k : Nat} (hk : k < l.length) : lastv l k + 1 ≤ (l.getD k (0, 0)).1 := by
  cases k with
  | zero =>
    have := h.1 0 hk
    show -1 + 1 ≤ (l.getD 0 (0, 0)).1
    omega
  | succ k =>
    have := h.2 k hk
    show (l.getD k (0, 0)).2 + 1 ≤ _
    omega
end Go.Er
namespace Go.Proofs.Ytilkoooahoecfaa.Er
open Go.RowKit Go.Bs Go.Pl Go.Sort Go.Er
theorem cells_bel2 {α : Type} {w w' : World} {M : List Nat} {A : Option Addr} {sz : Nat} {enc : α → List Value} {l : List α} (h : Cells w A sz enc l) (hb : Dr.Bel M w w') (hA : ∀ k, A.map (·.block) = some k → k ∉ M) : Cells w' A sz enc l := by
  refine h.keep (fun p hp hq => ?_)
  rw [World.cell?_of_block (hb.block p.block hp (hA _ hq))]
theorem rin_t {x y lo hi : Int} (h : lo ≤ x ∧ x ≤ y ∧ y ≤ hi) (w : World) : Calls Try.prog 99 #[.agg #[.int .i64 x, .int .i64 y], .int .i64 lo, .int .i64 hi] w fun e w' => e = .returned (.bool true) ∧ Below w.heap.size w w' := by
  have hx := ext_alloc w (.cells #[.int .i64 x, .int .i64 y] 95)
  obtain ⟨h1, h2, h3⟩ := h
  go_enter Try.func99, Try.ntmps99
  go_wp2
  go_ret
  exact ⟨rfl, hx⟩
theorem riv_ok (l : List (Int × Int)) (w : World) (h : rivOk l l.length) : PredR Try.prog 101 #[] #[] valR (fun _ => true) w l := by
  intro W x hx hb
  obtain ⟨i, hi, rfl⟩ := List.mem_iff_getElem.1 hx
  have h1 := h i hi
  rw [getD_at _ hi] at h1
  generalize l[i] = z at *
  obtain ⟨x, y⟩ := z
  simp only at h1
  have C1 := Lib.hid (fun V => rin_t h1 V)
  have hx := ext_alloc W (.cells #[.int .i64 x, .int .i64 y] 95)
  clear h1
  show Calls Try.prog 101 #[.agg #[.int .i64 x, .int .i64 y]] W fun e w' => e = .returned (.bool true) ∧ Below W.heap.size W w'
  go_enter Try.func101, Try.ntmps101
  go_wp2_with fail
  refine (C1.out _).mono ?_; rintro e w1 ⟨rfl, hb1⟩
  go_wp2
  go_ret
  exact ⟨rfl, ext_trans hx hb1⟩
theorem apart_ok (lv x y days : Int) (L Db : Nat) (W : World) (hL : Blk W L 3 [.int .i64 lv]) (hD : Blk W Db 3 [.int .i64 days]) (_hne : L ≠ Db) (h : lv + 1 ≤ x ∧ x ≤ y ∧ y ≤ days - 1) (hb : -1 ≤ lv ∧ lv ≤ 60) (hd : 1 ≤ days ∧ days ≤ 60) :
    Calls Try.prog 98 #[.agg #[.int .i64 x, .int .i64 y], .pointer (some ⟨L, 0, none⟩), .pointer (some ⟨Db, 0, none⟩)] W fun e w' => e = .returned (.bool true) ∧ Dr.Bel [L] W w' ∧ Blk w' L 3 [.int .i64 y] := by
  have C1 := Lib.hid (fun V => rin_t h V)
  have e1 : wrap64 (lv + 1) = lv + 1 := by unfold wrap64; omega
  have e2 : wrap64 (days - 1) = days - 1 := by unfold wrap64; omega
  have hx := ext_alloc W (.cells #[.int .i64 x, .int .i64 y] 95)
  have hE := Blk.new W 95 [.int .i64 x, .int .i64 y]
  have hL1 := hL.ext hx
  have hD1 := hD.ext hx
  have hLl := hL.lt
  clear hL hD h hb hd
  go_enter Try.func98, Try.ntmps98
  go_upto_region 1 with fail
  change Blk (W.alloc (.cells #[.int .i64 x, .int .i64 y] 95)) _ _ _ at hE hL1 hD1
  generalize W.alloc (.cells #[.int .i64 x, .int .i64 y] 95) = W1 at *
  have c0 : W1.cell? ⟨W.heap.size, 0, none⟩ = _ := hE.cell rfl
  have c1 : W1.cell? ⟨W.heap.size, 1, none⟩ = _ := hE.cell rfl
  have l0 : W1.cell? ⟨L, 0, none⟩ = _ := hL1.cell rfl
  have d0 : W1.cell? ⟨Db, 0, none⟩ = _ := hD1.cell rfl
  go_wp2_with fail
  refine (C1.out _).mono ?_; rintro e w1 ⟨rfl, hb1⟩
  have hE2 := hE.ext hb1
  have hL2 := hL1.ext hb1
  clear c0 c1 l0 d0 hE hL1 hD1 C1
  have c1 : w1.cell? ⟨W.heap.size, 1, none⟩ = _ := hE2.cell rfl
  have l0 : w1.cell? ⟨L, 0, none⟩ = _ := hL2.cell rfl
  have f0 := hL2.free 0
  go_wp2
  go_ret
  exact ⟨rfl, (Dr.Bel.of (ext_trans hx hb1)).trans (Dr.Bel.store (by simp) _), hL2.set 0 _⟩
/-- a town's ranges, one behind the other: L holds the last day that is taken, Db the number of days -/
theorem apart_all (l : List (Int × Int)) (A : Option Addr) (n c : Nat) (days : Int) (L Db : Nat) (W : World) (hn : l.length = n) (hm : n ≤ 1000) (hc : Cells W A 2 encR l) (hA : ∀ k, A.map (·.block) = some k → k ∉ [L]) (hL : Blk W L 3 [.int .i64 (-1)]) (hD : Blk W Db 3 [.int .i64 days]) (hne : L ≠ Db) (hok : opnOk l days l.length) (hd : 1 ≤ days ∧ days ≤ 60) :
    Calls Try.prog 100 #[.slice A n c, .func (.func 98) #[] #[.pointer (some ⟨L, 0, none⟩), .pointer (some ⟨Db, 0, none⟩)]] W fun e w' => e = .returned (.bool true) ∧ Dr.Bel [L] W w' := by
  have hx := ext_alloc W (.cells #[.func (.func 98) #[] #[.pointer (some ⟨L, 0, none⟩), .pointer (some ⟨Db, 0, none⟩)]] 142)
  have hF := Blk.new W 142 [.func (.func 98) #[] #[.pointer (some ⟨L, 0, none⟩), .pointer (some ⟨Db, 0, none⟩)]]
  have hFL : W.heap.size ≠ L := by have := hL.lt; omega
  have hL1 := hL.ext hx
  have hD1 := hD.ext hx
  have hc1 := hc.ext hx
  have H : Hid (∀ V k, k < n → Blk V W.heap.size 142 [.func (.func 98) #[] #[.pointer (some ⟨L, 0, none⟩), .pointer (some ⟨Db, 0, none⟩)]] → Blk V L 3 [.int .i64 (lastv l k)] → Blk V Db 3 [.int .i64 days] →
      Calls Try.prog 128 #[.agg #[.int .i64 (l.getD k (0, 0)).1, .int .i64 (l.getD k (0, 0)).2], .pointer (some ⟨W.heap.size, 0, none⟩)] V fun e w' => e = .returned (.bool false) ∧ Dr.Bel [L] V w' ∧ Blk w' L 3 [.int .i64 (lastv l (k + 1))]) := Lib.hid (by
    intro V k hk hFV hLV hDV
    have g1 := hok.1 k (by omega)
    have g2 := last_lt hok (show k < l.length by omega)
    have g3 := last_ok hd hok (show k ≤ l.length by omega)
    show Calls Try.prog 128 #[.agg #[.int .i64 (l.getD k (0, 0)).1, .int .i64 (l.getD k (0, 0)).2], .pointer (some ⟨W.heap.size, 0, none⟩)] V fun e w' => e = .returned (.bool false) ∧ Dr.Bel [L] V w' ∧ Blk w' L 3 [.int .i64 (l.getD k (0, 0)).2]
    generalize lastv l k = lv at *
    generalize l.getD k (0, 0) = z at *
    obtain ⟨x, y⟩ := z
    simp only at g1 g2 ⊢
    have hx2 := ext_alloc V (.cells #[.int .i64 x, .int .i64 y] 95)
    have hE2 := Blk.new V 95 [.int .i64 x, .int .i64 y]
    have C := Lib.hid (apart_ok lv x y days L Db (V.alloc (.cells #[.int .i64 x, .int .i64 y] 95)) (hLV.ext hx2) (hDV.ext hx2) hne ⟨g2, g1.2.1, g1.2.2⟩ g3 hd)
    have hF2 := hFV.ext hx2
    clear hF hL hD hc hA hx hL1 hD1 hc1 hok g1 g2 g3 hLV hDV hFV
    go_enter Try.func128, Try.ntmps128
    go_upto_region 1 with fail
    change Blk (V.alloc (.cells #[.int .i64 x, .int .i64 y] 95)) _ _ _ at hE2 hF2
    have f0 : (V.alloc (.cells #[.int .i64 x, .int .i64 y] 95)).cell? ⟨W.heap.size, 0, none⟩ = _ := hF2.cell rfl
    have e0 : (V.alloc (.cells #[.int .i64 x, .int .i64 y] 95)).cell? ⟨V.heap.size, 0, none⟩ = _ := hE2.cell rfl
    have e1 : (V.alloc (.cells #[.int .i64 x, .int .i64 y] 95)).cell? ⟨V.heap.size, 1, none⟩ = _ := hE2.cell rfl
    have eg := enters_of Try.func98 (by kernel_rfl) rfl
    unfold Enters at eg
    go_wp2_with fail
    refine C.out.mono ?_; rintro e w1 ⟨rfl, hb1, hL9⟩
    go_wp2
    go_ret
    exact ⟨rfl, (Dr.Bel.of hx2).trans hb1, hL9⟩)
  have HI : Hid (∀ V, V = W.alloc (.cells #[.func (.func 98) #[] #[.pointer (some ⟨L, 0, none⟩), .pointer (some ⟨Db, 0, none⟩)]] 142) →
      Calls Try.prog 104 #[.slice A n c, .func (.func 128) #[] #[.pointer (some ⟨W.heap.size, 0, none⟩)]] V fun e w' => e = .returned (.int .i64 (-1)) ∧ Dr.Bel [L] V w') := Lib.hid (by
    intro V hV
    have hFV := hV ▸ hF
    have hLV := hV ▸ hL1
    have hDV := hV ▸ hD1
    have hcV := hV ▸ hc1
    clear hV hF hL1 hD1 hc1 hx hL hD hc
    have eg := enters_of Try.func128 (by kernel_rfl) rfl
    unfold Enters at eg
    have Hn := Lib.hid hn
    clear hn hok
    go_enter Try.func104, Try.ntmps104
    go_wp2
    go_loopw [5, 8] (fun _ t wr => ∃ k : Nat, k ≤ n ∧ t = .int .i64 k ∧ Dr.Bel [L] V wr ∧ Blk wr L 3 [.int .i64 (lastv l k)]) (fun _ t _ => n - (intOf t).toNat)
    case atStart => exact ⟨0, by omega, rfl, Dr.Bel.of (Below.refl _ _), hLV⟩
    case round =>
      obtain ⟨k, hk, rfl, hb, hLr⟩ := hrel
      by_cases hlt : k < n
      · obtain ⟨b, off, rfl, -, c0, c1⟩ := at_rng (cells_bel2 hcV hb hA) (show k < l.length by rw [Hn.out]; exact hlt)
        have C := Lib.hid (H.out wr k hlt ((hb.block _ hFV.lt (by simpa using hFL)).trans hFV) hLr ((hb.block _ hDV.lt (by simpa using fun h => hne h.symm)).trans hDV))
        have hz : (0 : Int) ≤ k := by omega
        have hkn : (k : Int) < (n : Int) := by omega
        generalize (l.getD k (0, 0)).1 = x at *
        generalize (l.getD k (0, 0)).2 = y at *
        go_wp2_with fail
        refine C.out.mono ?_; rintro e w1 ⟨rfl, hb1, hL9⟩
        have hb2 := hb.trans hb1
        clear hb hb1 hLr C
        go_wp2
        go_roundw
        case rel => exact ⟨k + 1, by omega, by go_num, hb2, hL9⟩
        case measure => simp [intOf]; omega
      · go_wp2
        go_ret
        exact ⟨rfl, hb⟩)
  have HC : Hid (∀ V, V = W.alloc (.cells #[.func (.func 98) #[] #[.pointer (some ⟨L, 0, none⟩), .pointer (some ⟨Db, 0, none⟩)]] 142) →
      Calls Try.prog 60 #[.slice A n c, .func (.func 128) #[] #[.pointer (some ⟨W.heap.size, 0, none⟩)]] V fun e w' => e = .returned (.bool false) ∧ Dr.Bel [L] V w') := Lib.hid (by
    intro V hV
    have C := Lib.hid (HI.out V hV)
    clear hV hF hL1 hD1 hc1 hx hL hD hc hok hn
    go_enter Try.func60, Try.ntmps60
    go_wp2_with fail
    refine C.out.mono ?_; rintro e w1 ⟨rfl, hb1⟩
    go_wp2
    go_ret
    exact ⟨rfl, hb1⟩)
  have C := Lib.hid (HC.out _ rfl)
  clear hF hL1 hD1 hc1 hL hD hc hok hn
  go_enter Try.func100, Try.ntmps100
  go_wp2_with fail
  refine C.out.mono ?_; rintro e w1 ⟨rfl, hb1⟩
  go_wp2
  go_ret
  exact ⟨rfl, (Dr.Bel.of hx).trans hb1⟩
end Go.Proofs.Ytilkoooahoecfaa.Er
