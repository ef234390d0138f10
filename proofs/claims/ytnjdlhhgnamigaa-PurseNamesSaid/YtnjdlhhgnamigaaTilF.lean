/- Walk: the reference's fewest pieces for each amount. -/
import Derived.Test.YtnjdlhhgnamigaaTilT
import Derived.Test.YtnjdlhhgnamigaaPlnA
namespace Go.Pu
open Go.Pl
theorem Tl.few_sum {t : Tl} (h : t.ok) {i : Nat} (hi : i < t.vals.length) (n : Nat) (hn : n < t.ways i 0 ∨ n ≤ 50) (b : Nat) : t.row (i + 1) b = 401 ∨ t.row (i + 1) b + n < 401 := by
  have h1 := Tl.few_bd h (t.vals.length - (i + 1)) (by omega) b
  have h2 := h.len
  have hc := h.c_bd hi
  unfold Tl.ways at hn
  unfold Tl.row
  omega
theorem Tl.ref_row {t : Tl} (h : t.ok) {i : Nat} (hi : i < t.vals.length) (a : Nat) : refN (fun b => encF (t.row (i + 1) b)) (t.v i) a (t.ways i a) = encF (t.row i a) := by
  rw [t.row_eq hi]
  refine refN_eq (t.v i) a (fun b => rfl) (fun b => (Tl.row_bd h (i + 1) b).1) _ (fun n hn b => ?_)
  have hc := h.c_bd hi
  unfold Tl.ways at hn
  exact Tl.few_sum h hi n (.inr (by omega)) b
theorem encF_bd {t : Tl} (h : t.ok) (i a : Nat) : -1 ≤ encF (t.row i a) ∧ encF (t.row i a) ≤ 400 := by
  have := Tl.row_bd h i a
  unfold encF
  split <;> omega
theorem encF_end (t : Tl) (a : Nat) : encF (t.row t.vals.length a) = if a = 0 then 0 else -1 := by
  rw [t.row_end]
  unfold encF
  split <;> simp
theorem refN_bd {t : Tl} (h : t.ok) (i v a : Nat) : ∀ k, k ≤ 51 → -1 ≤ refN (fun b => encF (t.row i b)) v a k ∧ refN (fun b => encF (t.row i b)) v a k ≤ 451
  | 0, _ => by simp [refN]
  | k + 1, hk => by
    have h1 := refN_bd h i v a k (by omega)
    have h2 := encF_bd h i (a - k * v)
    unfold refN
    split <;> omega
end Go.Pu
namespace Go.Proofs.Ytnjdlhhgnamigaa
open Go.RowKit Go.Bs Go.Pu Go.Pl Go.Sort

set_option maxRecDepth 100000 in
set_option maxHeartbeats 4000000 in
theorem Fewest_any (t : Tl) (hok : t.ok) (A B : Option Addr) (n c d fr most : Nat) (w : World) (hn : t.vals.length = n) (hf : fr ≤ n) (hmost : most ≤ 5000)
    (hA : Cells w A 1 encI t.vals) (hB : Cells w B 1 encI t.cnts) :
    Calls Try.prog 71 #[tlV A n c B n d, .int .i64 fr, .int .i64 most] w fun e w' =>
      ∃ g, e = .returned (.slice (some ⟨g, 0, none⟩) (most + 1) (most + 1)) ∧ w.heap.size ≤ g ∧ IArr w' g 3 (tab (most + 1) fun a => encF (t.row fr a)) ∧ Below w.heap.size w w' := by
  have hmk := fun w => mk27n (most + 1) (by omega) w
  simp only [Int.natCast_add, Int.natCast_one] at hmk
  have hb0 := ext_alloc w (.cells #[.slice A n c, .slice B n d] 62)
  have hX := Blk.new w 62 [.slice A n c, .slice B n d]
  have hn8 : n ≤ 8 := by have := hok.len; omega
  have hA0 := hA.ext hb0
  have hB0 := hB.ext hb0
  have Hok := Lib.hid hok
  have Hn := Lib.hid hn
  clear hA hB hok hn
  unfold tlV
  go_enter Try.func71, Try.ntmps71
  go_upto_region 1 with fail
  change Blk (w.alloc (.cells #[.slice A n c, .slice B n d] 62)) _ _ _ at hX
  generalize w.alloc (.cells #[.slice A n c, .slice B n d] 62) = W0 at *
  have hXl := hX.lt
  go_upto_region 2 with fail
  have hI : IArr (W0.alloc (.cells ((tab (most + 1) fun _ => 0).map (Value.int .i64)).toArray 3)) W0.heap.size 3 (parN (most + 1) (fun a => encF (t.row n a)) 1) := by
    rw [show parN (most + 1) (fun a => encF (t.row n a)) 1 = tab (most + 1) fun _ => 0 from tab_congr (fun i _ => by
      by_cases h0 : i < 1
      · rw [if_pos h0]
        show encF (t.row n i) = 0
        rw [← Hn.out, encF_end, if_pos (by omega)]
      · rw [if_neg h0])]
    exact Blk.new W0 3 _
  have hb1 := ext_alloc W0 (.cells ((tab (most + 1) fun _ => 0).map (Value.int .i64)).toArray 3)
  generalize hW1 : W0.alloc (.cells ((tab (most + 1) fun _ => 0).map (Value.int .i64)).toArray 3) = W1 at *
  clear hW1
  go_wp2
  go_loopw [8] (fun x wr => ∃ k : Nat, x = .int .i64 k ∧ 1 ≤ k ∧ k ≤ most + 1 ∧ IArr wr W0.heap.size 3 (parN (most + 1) (fun a => encF (t.row n a)) k) ∧ Dr.Bel [W0.heap.size] W1 wr) (fun x _ => most + 1 - (intOf x).toNat)
  case atStart => exact ⟨1, rfl, by omega, by omega, hI, Dr.Bel.refl _ _⟩
  case round =>
    clear hI
    obtain ⟨k, rfl, hk1, hk, hI, hb⟩ := hrel
    by_cases hlt : k ≤ most
    · have hlt' : (k : Int) ≤ (most : Int) := by omega
      have hkN : (k : Int) < (most : Int) + 1 := by omega
      have hst := parN_set (most + 1) (fun a => encF (t.row n a)) k
      rw [show encF (t.row n k) = -1 by rw [← Hn.out, encF_end, if_neg (by omega)]] at hst
      have c0 : wr.cell? ⟨W0.heap.size, k, none⟩ = _ := hI.cell (i := k) (parN_get (fun a => encF (t.row n a)) (show k < most + 1 by omega))
      have f0 := hI.free k
      have hI2 := hI.set k (-1)
      rw [hst] at hI2
      have hb2 := hb.put (p := ⟨W0.heap.size, k, none⟩) (by simp) (.int .i64 (-1))
      clear hst hI
      go_wp2
      go_roundw
      case rel => exact ⟨k + 1, by go_num, by omega, by omega, hI2, hb2⟩
      case measure => simp [intOf]; omega
    · obtain rfl : k = most + 1 := by omega
      rw [parN_full] at hI
      have hXr := hb.blk (hX.ext hb1) (by simp; omega)
      have hb3 : Below W0.heap.size W0 wr := hb1.trans (hb.old hb1.size (by simp))
      have x0 : wr.cell? ⟨w.heap.size, 0, none⟩ = _ := hXr.cell rfl
      clear hXr hb hb1
      go_wp2
      clear x0
      generalize wr = W2 at *
      go_loopw [7, 9, 10, 11, 12, 13] (fun v x _ _ _ _ wr => ∃ (j g : Nat), x = .int .i64 ((j : Int) - 1) ∧ fr ≤ j ∧ j ≤ n ∧ v = .slice (some ⟨g, 0, none⟩) (most + 1) (most + 1) ∧ W0.heap.size ≤ g ∧ IArr wr g 3 (tab (most + 1) fun a => encF (t.row j a)) ∧ Below W0.heap.size W0 wr) (fun _ x _ _ _ _ _ => (intOf x + 1).toNat)
      case atStart => exact ⟨n, _, rfl, hf, Nat.le_refl _, rfl, Nat.le_refl _, hI, hb3⟩
      case round =>
        clear hI hb3
        obtain ⟨j, g, rfl, hj1, hj2, rfl, hg, hI, hb⟩ := hrel
        by_cases hlt : fr < j
        · obtain ⟨i, rfl⟩ : ∃ i, j = i + 1 := ⟨j - 1, by omega⟩
          have hlt' : (fr : Int) ≤ (i : Int) := by omega
          have hii : ((i + 1 : Nat) : Int) - 1 = (i : Int) := by omega
          rw [hii]
          clear hii
          have hin : i < n := by omega
          have hin' : (i : Int) < n := by omega
          have hit : i < t.vals.length := by rw [Hn.out]; exact hin
          have hic : i < t.cnts.length := by rw [Hok.out.eq]; exact hit
          have hvb := Hok.out.v_bd hit
          have hcb := Hok.out.c_bd hit
          have Hit := Lib.hid hit
          obtain ⟨bA, offA, rfl, hltA, cA⟩ := hA0.at1 hit rfl
          obtain ⟨bB, offB, rfl, hltB, cB⟩ := hB0.at1 hic rfl
          rw [Hok.out.v_eq hit] at cA
          rw [Hok.out.c_eq hit] at cB
          clear hit hic
          have Hrow := Lib.hid (fun k => Tl.ref_row Hok.out Hit.out k)
          have Hbd := Lib.hid (fun a => encF_bd Hok.out (i + 1) a)
          have Hrb := Lib.hid (fun k q hq => refN_bd Hok.out (i + 1) (t.v i) k q hq)
          have hgl := hI.lt
          go_upto_region 10 with fail
          have hJ : IArr (wr.alloc (.cells ((tab (most + 1) fun _ => 0).map (Value.int .i64)).toArray 3)) wr.heap.size 3 (parN (most + 1) (fun a => encF (t.row i a)) 0) := by rw [parN_zero]; exact Blk.new wr 3 _
          have hb4 := ext_alloc wr (.cells ((tab (most + 1) fun _ => 0).map (Value.int .i64)).toArray 3)
          have hG : IArr (wr.alloc (.cells ((tab (most + 1) fun _ => 0).map (Value.int .i64)).toArray 3)) g 3 _ := Blk.ext hI hb4
          have hb5 : Below W0.heap.size W0 (wr.alloc (.cells ((tab (most + 1) fun _ => 0).map (Value.int .i64)).toArray 3)) := hb.trans (hb4.mono hb.size)
          have hwz := hb.size
          generalize wr.alloc (.cells ((tab (most + 1) fun _ => 0).map (Value.int .i64)).toArray 3) = W3 at *
          generalize wr.heap.size = G at *
          clear hI hb hb4
          go_wp2
          go_loopw [11, 12, 13] (fun x _ _ wr => ∃ k : Nat, x = .int .i64 k ∧ k ≤ most + 1 ∧ IArr wr G 3 (parN (most + 1) (fun a => encF (t.row i a)) k) ∧ Dr.Bel [G] W3 wr) (fun x _ _ _ => most + 1 - (intOf x).toNat)
          case atStart => exact ⟨0, rfl, by omega, hJ, Dr.Bel.refl _ _⟩
          case round =>
            clear hJ
            obtain ⟨k, rfl, hk, hJ, hb⟩ := hrel
            by_cases hlt2 : k ≤ most
            · have hlt2' : (k : Int) ≤ (most : Int) := by omega
              have hkN : (k : Int) < (most : Int) + 1 := by omega
              have Hst := Lib.hid (show (parN (most + 1) (fun a => encF (t.row i a)) k).set k (encF (t.row i k)) = parN (most + 1) (fun a => encF (t.row i a)) (k + 1) from parN_set (most + 1) (fun a => encF (t.row i a)) k)
              have Hlen := Lib.hid (show (parN (most + 1) (fun a => encF (t.row i a)) k).length = most + 1 by unfold parN; rw [tab_len])
              have c0 : wr.cell? ⟨G, k, none⟩ = _ := hJ.cell (i := k) (parN_get (fun a => encF (t.row i a)) (show k < most + 1 by omega))
              have f0 := hJ.free k
              generalize parN (most + 1) (fun a => encF (t.row i a)) k = P at *
              go_upto_region 14 with fail
              have hJ2 := hJ.set k (-1)
              have hb2 := hb.put (p := ⟨G, k, none⟩) (by simp) (.int .i64 (-1))
              clear hJ hb c0 f0
              generalize wr.setCell ⟨G, k, none⟩ (.int .i64 (-1)) = W4 at *
              go_wp2
              go_loopw [12, 13] (fun x _ wr => ∃ q : Nat, x = .int .i64 q ∧ q ≤ t.ways i k ∧ IArr wr G 3 (P.set k (refN (fun b => encF (t.row (i + 1) b)) (t.v i) k q)) ∧ Dr.Bel [G] W3 wr) (fun x _ _ => t.ways i k - (intOf x).toNat)
              case atStart => exact ⟨0, rfl, by omega, hJ2, hb2⟩
              case round =>
                clear hJ2 hb2
                obtain ⟨q, rfl, hq, hJ, hb⟩ := hrel
                have hXr := hb.blk ((hX.under hb5 hXl)) (by simp; omega)
                have x0 : wr.cell? ⟨w.heap.size, 0, none⟩ = _ := hXr.cell rfl
                have x1 : wr.cell? ⟨w.heap.size, 1, none⟩ = _ := hXr.cell rfl
                have hbb : Below W0.heap.size W0 wr := hb5.trans (hb.old hb5.size (by simp; omega))
                have dA := cell_ext cA hbb
                have dB := cell_ext cB hbb
                have hGr : IArr wr g 3 _ := hb.blk hG (by simp; omega)
                by_cases hqw : q < t.ways i k
                · obtain ⟨hq1, hq2⟩ := Tl.ways_yes Hok.out Hit.out hqw
                  have hnx : refN (fun b => encF (t.row (i + 1) b)) (t.v i) k (q + 1) = if 0 ≤ encF (t.row (i + 1) (k - q * t.v i)) ∧ (refN (fun b => encF (t.row (i + 1) b)) (t.v i) k q < 0 ∨ encF (t.row (i + 1) (k - q * t.v i)) + q < refN (fun b => encF (t.row (i + 1) b)) (t.v i) k q) then encF (t.row (i + 1) (k - q * t.v i)) + q else refN (fun b => encF (t.row (i + 1) b)) (t.v i) k q := rfl
                  generalize hp : q * t.v i = p at *
                  have hpi : (q : Int) * (t.v i : Int) = (p : Int) := by rw [← hp]; simp
                  have hq1' : (q : Int) ≤ (t.c i : Int) := by omega
                  have hq2' : (p : Int) ≤ (k : Int) := by omega
                  generalize hdd : k - p = dd at *
                  have hdi : (k : Int) - (p : Int) = (dd : Int) := by omega
                  have hddN : (dd : Int) < (most : Int) + 1 := by omega
                  have y0 : wr.cell? ⟨g, dd, none⟩ = some (.int .i64 (encF (t.row (i + 1) dd))) := hGr.cell (i := dd) (tab_get _ (by omega))
                  have z0 : wr.cell? ⟨G, k, none⟩ = _ := hJ.cell (i := k) (x := refN (fun b => encF (t.row (i + 1) b)) (t.v i) k q) (by rw [List.getElem?_set_self (by rw [Hlen.out]; omega)])
                  have zf := hJ.free k
                  have hyb := Hbd.out dd
                  have hzb := Hrb.out k q (by omega)
                  have Hnx := Lib.hid hnx
                  clear hnx hp hdd hGr
                  generalize encF (t.row (i + 1) dd) = y at *
                  generalize refN (fun b => encF (t.row (i + 1) b)) (t.v i) k q = z at *
                  by_cases h0 : 0 ≤ y
                  · by_cases hz0 : z < 0
                    · go_wp2
                      have hJ4 : IArr (wr.setCell ⟨G, k, none⟩ (.int .i64 (y + q))) G 3 (P.set k (refN (fun b => encF (t.row (i + 1) b)) (t.v i) k (q + 1))) := by
                        have h := hJ.set k (y + q)
                        rw [List.set_set] at h
                        rw [Hnx.out, if_pos ⟨h0, .inl hz0⟩]
                        exact h
                      go_roundw
                      case rel => exact ⟨q + 1, by go_num, by omega, hJ4, hb.put (by simp) _⟩
                      case measure => simp [intOf]; omega
                    · by_cases hz1 : y + q < z
                      · go_wp2
                        have hJ4 : IArr (wr.setCell ⟨G, k, none⟩ (.int .i64 (y + q))) G 3 (P.set k (refN (fun b => encF (t.row (i + 1) b)) (t.v i) k (q + 1))) := by
                          have h := hJ.set k (y + q)
                          rw [List.set_set] at h
                          rw [Hnx.out, if_pos ⟨h0, .inr hz1⟩]
                          exact h
                        go_roundw
                        case rel => exact ⟨q + 1, by go_num, by omega, hJ4, hb.put (by simp) _⟩
                        case measure => simp [intOf]; omega
                      · have hJ4 := hJ
                        rw [← Hnx.out.trans (if_neg (fun h => h.2.elim hz0 hz1))] at hJ4
                        go_wp2
                        go_roundw
                        case rel => exact ⟨q + 1, by go_num, by omega, hJ4, hb⟩
                        case measure => simp [intOf]; omega
                  · have hJ4 := hJ
                    rw [← Hnx.out.trans (if_neg (fun h => h0 h.1))] at hJ4
                    go_wp2
                    go_roundw
                    case rel => exact ⟨q + 1, by go_num, by omega, hJ4, hb⟩
                    case measure => simp [intOf]; omega
                · obtain rfl : q = t.ways i k := by omega
                  have hJ4 := hJ
                  rw [Hrow.out k, Hst.out] at hJ4
                  have HJ := Lib.hid hJ4
                  clear hJ hJ4 hGr
                  rcases Tl.ways_no Hok.out Hit.out hqw with h1 | ⟨h1, h2⟩
                  · have h1' : ¬ (t.ways i k : Int) ≤ (t.c i : Int) := by omega
                    clear hqw h1
                    go_wp2
                    go_roundw
                    case rel => exact ⟨k + 1, by go_num, by omega, HJ.out, hb⟩
                    case measure => simp [intOf]; omega
                  · have h1' : (t.ways i k : Int) ≤ (t.c i : Int) := by omega
                    generalize hp : t.ways i k * t.v i = p at *
                    have hpi : (t.ways i k : Int) * (t.v i : Int) = (p : Int) := by rw [← hp]; simp
                    have h2' : ¬ (p : Int) ≤ (k : Int) := by omega
                    have hpb : p ≤ 50 * 1000 := by rw [← hp]; exact Nat.mul_le_mul (by omega) (by omega)
                    clear hqw h1 h2
                    go_wp2
                    go_roundw
                    case rel => exact ⟨k + 1, by go_num, by omega, HJ.out, hb⟩
                    case measure => simp [intOf]; omega
            · obtain rfl : k = most + 1 := by omega
              rw [parN_full] at hJ
              have hbb : Below W0.heap.size W0 wr := hb5.trans (hb.old hb5.size (by simp; omega))
              go_wp2
              go_roundw
              case rel => exact ⟨i, G, rfl, by omega, by omega, rfl, by omega, hJ, hbb⟩
              case measure => simp [intOf]
        · obtain rfl : fr = j := by omega
          have hlt' : ¬ (fr : Int) ≤ (fr : Int) - 1 := by omega
          go_wp2
          go_ret
          exact ⟨g, rfl, by have := hb0.size; omega, hI, ext_trans hb0 hb⟩
end Go.Proofs.Ytnjdlhhgnamigaa
