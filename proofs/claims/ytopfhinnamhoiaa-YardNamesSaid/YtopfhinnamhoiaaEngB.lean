/- Walk: fuel; Run. -/
import Derived.Deep.DeepCutAuto
import Derived.Lib.RabinKarpLaws
import Derived.Test.YtopfhinnamhoiaaEngA
namespace Go.Proofs.Ytopfhinnamhoiaa
open Go.RowKit Go.Bs Go.Yd Go.Pl Go.Sort

def rkN (l : List Eng) : List Nat := (rankL (fun i => (engs l i.toNat).per) l.length).map Int.toNat
/-- the engines of a set among the first k by rank -/
def preS (l : List Eng) (s k : Nat) : List Nat := ((rkN l).take k).filter (fun i => s.testBit i)
theorem rkN_len (l : List Eng) : (rkN l).length = l.length := by unfold rkN; rw [List.length_map, rank_len]
theorem rkN_lt {l : List Eng} {i : Nat} (h : i ∈ rkN l) : i < l.length := by have := (rank_toNat _ _).mem_iff.1 h; simpa using this
theorem preS_end (l : List Eng) (s : Nat) : preS l s l.length = rankS l s := by unfold preS rankS; rw [List.take_of_length_le (by rw [rkN_len]; omega)]; rfl
theorem preS_succ {l : List Eng} {s k : Nat} (hk : k < (rkN l).length) : preS l s (k + 1) = if s.testBit (rkN l)[k] = true then preS l s k ++ [(rkN l)[k]] else preS l s k := by
  unfold preS
  rw [List.take_succ_eq_append_getElem hk, List.filter_append]
  by_cases h : s.testBit (rkN l)[k] = true
  · rw [if_pos h]; simp [h]
  · rw [if_neg h]; simp [h]
def fuelP (l : List Eng) (s : Nat) (load : Int) (k : Nat) : Int × Int := (preS l s k).foldl (burn l) (0, load)
def mostP (l : List Eng) (s k : Nat) : Int := isum ((preS l s k).map fun i => (engs l i).most)

theorem bit_and (s i : Nat) (hs : s < 9223372036854775808) : bits BinOp.and IntKind.i64 ((s : Int) / 2 ^ i) 1 = if s.testBit i = true then 1 else 0 := by
  have e : (s : Int) / 2 ^ i = ((s / 2 ^ i : Nat) : Int) := by norm_cast
  rw [e, Go.Proofs.and_one _ (Nat.lt_of_le_of_lt (Nat.div_le_self _ _) hs), Nat.testBit_eq_decide_div_mod_eq]
  by_cases h : s / 2 ^ i % 2 = 1
  · rw [h]; simp
  · have : s / 2 ^ i % 2 = 0 := by omega
    rw [this]; simp
theorem bit_and0 (s i : Nat) (hs : s < 9223372036854775808) : (bits BinOp.and IntKind.i64 ((s : Int) / 2 ^ i) 1 == 0) = !s.testBit i := by
  rw [bit_and s i hs]; cases s.testBit i <;> rfl
theorem bit_and1 (s i : Nat) (hs : s < 9223372036854775808) : (bits BinOp.and IntKind.i64 ((s : Int) / 2 ^ i) 1 == 1) = s.testBit i := by
  rw [bit_and s i hs]; cases s.testBit i <;> rfl
theorem burn_bd {l : List Eng} (hok : engOk l) : ∀ (R : List Nat) (a : Int × Int), (∀ i ∈ R, i < l.length) → 0 ≤ a.1 → 0 ≤ a.2 → a.2 ≤ 10000000 →
    0 ≤ (R.foldl (burn l) a).1 ∧ (R.foldl (burn l) a).1 ≤ a.1 + R.length * 100100000000 ∧ 0 ≤ (R.foldl (burn l) a).2 ∧ (R.foldl (burn l) a).2 ≤ 10000000
  | [], a, _, h1, h2, h3 => by simp; omega
  | i :: R, a, hR, h1, h2, h3 => by
    have hi := engs_ok hok (hR i (by simp))
    have hm := mul_bd (a := min a.2 (engs l i).most) (b := (engs l i).per) (m := 10000000) (n := 10000) (by have := hi.1.1; omega) (by omega) hi.2.2.1 hi.2.2.2
    have hb : burn l a i = (a.1 + (1000 * (engs l i).idle + min a.2 (engs l i).most * (engs l i).per), a.2 - min a.2 (engs l i).most) := rfl
    have hid := hi.2.1
    have hmo := hi.1
    rw [List.foldl_cons]
    have ih := burn_bd hok R (burn l a i) (fun j hj => hR j (by simp [hj])) (by rw [hb]; simp only; omega) (by rw [hb]; simp only; omega) (by rw [hb]; simp only; omega)
    rw [hb] at ih ⊢
    simp only at ih
    rw [List.length_cons, show ((R.length + 1 : Nat) : Int) * 100100000000 = R.length * 100100000000 + 100100000000 by rw [Int.natCast_add, Int.add_mul]; simp]
    omega
theorem preS_len (l : List Eng) (s k : Nat) : (preS l s k).length ≤ k := Nat.le_trans (List.length_filter_le _ _) (List.length_take_le _ _)
theorem preS_lt {l : List Eng} {s k i : Nat} (h : i ∈ preS l s k) : i < l.length := rkN_lt (List.mem_of_mem_take (List.mem_filter.1 h).1)
theorem fuelP_bd {l : List Eng} (hok : engOk l) (s : Nat) {load : Int} (hl : 0 ≤ load ∧ load ≤ 10000000) {k : Nat} (hk : k ≤ 6) :
    0 ≤ (fuelP l s load k).1 ∧ (fuelP l s load k).1 ≤ 1000000000000 ∧ 0 ≤ (fuelP l s load k).2 ∧ (fuelP l s load k).2 ≤ 10000000 := by
  have h := burn_bd hok (preS l s k) (0, load) (fun i hi => preS_lt hi) (Int.le_refl _) hl.1 hl.2
  have := preS_len l s k
  unfold fuelP
  simp only at h
  omega
theorem mostP_bd {l : List Eng} (hok : engOk l) (s : Nat) {k : Nat} (hk : k ≤ 6) : 0 ≤ mostP l s k ∧ mostP l s k ≤ 60000000 := by
  have h := isum_map_bd (fun i => (engs l i).most) (preS l s k) 10000000 (fun i hi => (engs_ok hok (preS_lt hi)).1)
  have := preS_len l s k
  unfold mostP
  omega
theorem topS_bd {l : List Eng} (hok : engOk l) (s k : Nat) : 0 ≤ topS l (preS l s k) ∧ topS l (preS l s k) ≤ 10000000 := by
  refine ⟨(topS_ge l _ 0).1, ?_⟩
  rcases topS_hit l (preS l s k) 0 with h | ⟨i, hi, h⟩
  · unfold topS; omega
  · unfold topS; rw [h]; exact (engs_ok hok (preS_lt hi)).1.2

set_option maxRecDepth 100000 in
set_option maxHeartbeats 2000000 in
theorem fuel_any (l : List Eng) (A : Option Addr) (n cap : Nat) (s : Nat) (load need : Int) (w : World) (hn : l.length = n) (hok : engOk l) (hs : s < 2 ^ n) (hl : 0 ≤ load ∧ load ≤ 10000000) (hnd : 0 ≤ need ∧ need ≤ 10000000) (hd : Cells w A 3 Eng.enc l) :
    Calls Try.prog 96 #[.slice A n cap, .int .i64 s, .int .i64 load, .int .i64 need] w fun e w' => e = .returned (.tuple #[.int .i64 (fuelS l s load).1, .bool (carryS l s load need)]) ∧ Below w.heap.size w w' := by
  have hlen := hok.1
  rw [hn] at hlen
  have HR := Lib.hid (ranked_any l A n cap w hn hlen.1 (by omega) hd hok.2)
  have Hn := Lib.hid hn
  clear hn
  go_enter Try.func96, Try.ntmps96
  go_wp2_with fail
  refine HR.out.mono ?_; rintro e w1 ⟨v, rfl, hv, hb1⟩
  obtain ⟨A1, c1, rfl, hc1, -, hC, -⟩ := hv
  rw [rank_len] at hc1 ⊢
  go_wp2
  go_loopw [8, 10, 11, 12, 21] (fun su mo gr le x wr => ∃ k : Nat, x = .int .i64 k ∧ k ≤ n ∧ su = .int .i64 (fuelP l s load k).1 ∧ le = .int .i64 (fuelP l s load k).2 ∧ mo = .int .i64 (mostP l s k) ∧ gr = .int .i64 (topS l (preS l s k)) ∧ Below w.heap.size w wr ∧ Cells wr A1 1 encI (rankL (fun i => (engs l i.toNat).per) n)) (fun _ _ _ _ x _ => n - (intOf x).toNat)
  case atStart => exact ⟨0, rfl, by omega, rfl, rfl, rfl, rfl, hb1, hC⟩
  case round =>
    clear hC hb1
    obtain ⟨k, rfl, hk, rfl, rfl, rfl, rfl, hb, hC⟩ := hrel
    by_cases hlt : k < n
    · have hlt' : (k : Int) < (n : Int) := by omega
      have hkr : k < (rankL (fun i => (engs l i.toNat).per) n).length := by rw [rank_len]; exact hlt
      obtain ⟨br, or_, rfl, -, e0⟩ := hC.at1 hkr rfl
      have hmem : (rankL (fun i => (engs l i.toNat).per) n)[k] ∈ rankL (fun i => (engs l i.toNat).per) n := List.getElem_mem hkr
      obtain ⟨hi0, hin⟩ := rank_mem.1 hmem
      obtain ⟨i, hi⟩ := Int.eq_ofNat_of_zero_le hi0
      rw [hi] at e0
      have hin2 : i < n := by omega
      have hkN : k < (rkN l).length := by rw [rkN_len, Hn.out]; exact hlt
      have hrk : (rkN l)[k] = i := by
        unfold rkN
        simp only [List.getElem_map, Hn.out]
        rw [hi]; simp
      have hsucc := preS_succ (s := s) hkN
      rw [hrk] at hsucc
      have hs9 : s < 9223372036854775808 := Nat.lt_of_lt_of_le hs (Nat.le_trans (Nat.pow_le_pow_right (by omega) (show n ≤ 6 by omega)) (by decide))
      have hbd := fuelP_bd hok s hl (show k ≤ 6 by omega)
      have hmb := mostP_bd hok s (show k ≤ 6 by omega)
      have htb := topS_bd hok s k
      have heo := engs_ok hok (i := i) (by rw [Hn.out]; exact hin2)
      have heg := engs_get (l := l) (i := i) (by rw [Hn.out]; exact hin2)
      obtain ⟨b, off, rfl, -, c0, c1, c2⟩ := (hd.ext hb).at3 (k := i) (by rw [Hn.out]; exact hin2) rfl
      rw [← heg] at c0 c1 c2
      have Hsucc := Lib.hid hsucc
      clear hsucc heg hrk hi hmem hi0 hin
      have hin' : (i : Int) < (n : Int) := by omega
      have hi0 : (0 : Int) ≤ (i : Int) := by omega
      go_upto_if 29 with fail
      rw [bit_and0 s i hs9]
      generalize bits BinOp.and IntKind.i64 ((s : Int) / 2 ^ i) 1 = zb
      cases hbit : s.testBit i
      · have Hp := Lib.hid (show preS l s (k + 1) = preS l s k by rw [Hsucc.out, hbit]; rfl)
        clear hbit c0 c1 c2
        go_wp2
        go_roundw
        case rel => exact ⟨k + 1, by go_num, by omega, by unfold fuelP; rw [Hp.out], by unfold fuelP; rw [Hp.out], by unfold mostP; rw [Hp.out], by rw [Hp.out], hb, hC⟩
        case measure => simp [intOf]; omega
      · have hp : preS l s (k + 1) = preS l s k ++ [i] := by rw [Hsucc.out, hbit]; rfl
        have hf : fuelP l s load (k + 1) = burn l (fuelP l s load k) i := by unfold fuelP; rw [hp, List.foldl_append]; rfl
        have hm : mostP l s (k + 1) = mostP l s k + (engs l i).most := by unfold mostP; rw [hp, List.map_append, isum_append]; simp [isum]
        have ht : topS l (preS l s (k + 1)) = max (topS l (preS l s k)) (engs l i).most := by rw [hp]; unfold topS; rw [List.foldl_append]; rfl
        unfold burn at hf
        have Hf := Lib.hid hf
        have Hm := Lib.hid hm
        have Ht := Lib.hid ht
        clear hp hf hm ht hbit Hsucc
        generalize fuelP l s load k = fp at *
        obtain ⟨su, le⟩ := fp
        generalize mostP l s k = mo at *
        generalize topS l (preS l s k) = tp at *
        generalize engs l i = x at *
        obtain ⟨mx, ix, px⟩ := x
        obtain ⟨hx1, hx2, hx3⟩ := heo
        simp only at hx1 hx2 hx3 c0 c1 c2 hbd
        have hmul1 : 0 ≤ mx * px ∧ mx * px ≤ 100000000000 := by have := mul_bd hx1.1 hx1.2 hx3.1 hx3.2; omega
        have hmul2 : 0 ≤ le * px ∧ le * px ≤ 100000000000 := by have := mul_bd hbd.2.2.1 hbd.2.2.2 hx3.1 hx3.2; omega
        have hbl := ext_trans hb (ext_alloc wr (.cells #[.int .i64 mx, .int .i64 ix, .int .i64 px] 121))
        have hCl := hC.ext (ext_alloc wr (.cells #[.int .i64 mx, .int .i64 ix, .int .i64 px] 121))
        have hBx := Blk.new wr 121 [.int .i64 mx, .int .i64 ix, .int .i64 px]
        go_upto_region 8 with fail
        change Blk (wr.alloc (.cells #[.int .i64 mx, .int .i64 ix, .int .i64 px] 121)) wr.heap.size 121 [.int .i64 mx, .int .i64 ix, .int .i64 px] at hBx
        clear hb hC c0 c1 c2
        generalize wr.heap.size = Bx at *
        generalize wr.alloc (.cells #[.int .i64 mx, .int .i64 ix, .int .i64 px] 121) = W1 at *
        have x0 : W1.cell? ⟨Bx, 0, none⟩ = _ := hBx.cell rfl
        have x1 : W1.cell? ⟨Bx, 1, none⟩ = _ := hBx.cell rfl
        have x2 : W1.cell? ⟨Bx, 2, none⟩ = _ := hBx.cell rfl
        by_cases hml : mx < le
        · go_upto_region 11 with fail
          refine Dr.wp_region_plan 10 [] (.q [0, 1, 2, 3, 4, 5, 6, 7, 8, 9] .done) (by kernel_rfl) (by kernel_rfl) ?_
          have hb' := hbl.drew
          have hC' := hCl.drew
          have q0 := Dr.cell0 (hBx.drew.cell (i := 0) rfl)
          clear hbl hCl hBx x0 x1 x2
          generalize World.drew _ = W5 at *
          refine Dr.plan_q (l := [_, _, _, _, _, _, _, _, _, _]) rfl (fun K hK => ?_)
          iterate 10 (go_big_quiet_step (fail))
          refine wpQuiet_nil (hK _ ?_); clear hK K
          refine Dr.plan_end rfl ?_
          clear q0
          go_wp2
          go_roundw
          case rel => exact ⟨k + 1, by go_num, by omega, int_congr (by rw [Hf.out]; simp only; rw [Int.min_eq_right (by omega)]; unfold wrap64; omega), int_congr (by rw [Hf.out]), int_congr Hm.out.symm, int_congr (by rw [Ht.out]), hb', hC'⟩
          case measure => simp [intOf]; omega
        · go_upto_region 11 with fail
          refine Dr.wp_region_plan 10 [] (.q [0, 1, 2, 3, 4, 5, 6, 7, 8, 9] .done) (by kernel_rfl) (by kernel_rfl) ?_
          have hb' := hbl.drew
          have hC' := hCl.drew
          have q0 := Dr.cell0 (hBx.drew.cell (i := 0) rfl)
          clear hbl hCl hBx x0 x1 x2
          generalize World.drew _ = W5 at *
          refine Dr.plan_q (l := [_, _, _, _, _, _, _, _, _, _]) rfl (fun K hK => ?_)
          iterate 10 (go_big_quiet_step (fail))
          refine wpQuiet_nil (hK _ ?_); clear hK K
          refine Dr.plan_end rfl ?_
          clear q0
          go_wp2
          go_roundw
          case rel => exact ⟨k + 1, by go_num, by omega, int_congr (by rw [Hf.out]; simp only; rw [Int.min_eq_left (by omega)]; unfold wrap64; omega), int_congr (by rw [Hf.out]), int_congr Hm.out.symm, int_congr (by rw [Ht.out]), hb', hC'⟩
          case measure => simp [intOf]; omega
    · obtain rfl : k = n := by omega
      have hfi := fuel_is hok (s := s) (by rw [Hn.out]; exact hs) hl.1 (need := need) hnd.1
      have e1 : fuelP l s load k = fuelS l s load := by unfold fuelP fuelS; rw [← Hn.out, preS_end]
      have e2 : mostP l s k = mostS l s := by unfold mostP; rw [← Hn.out, preS_end, mostS_rank]
      have e3 : preS l s k = rankS l s := by rw [← Hn.out, preS_end]
      have hbd := fuelP_bd hok s hl (show k ≤ 6 by omega)
      have hmb := mostP_bd hok s (show k ≤ 6 by omega)
      have htb := topS_bd hok s k
      obtain ⟨su, le, hfe⟩ : ∃ su le, fuelS l s load = (su, le) := ⟨_, _, rfl⟩
      rw [e1, hfe] at hbd
      rw [e2] at hmb
      rw [e3] at htb
      rw [hfe] at hfi
      rw [e1, e2, e3, hfe]
      have Hfi := Lib.hid hfi
      have Hfe := Lib.hid hfe
      clear hfi e1 e2 e3 hfe
      generalize mostS l s = mo at *
      generalize topS l (rankS l s) = tp at *
      simp only at Hfi hbd ⊢
      have hfi := Hfi.out
      by_cases h0 : 0 < s
      · have h0' : (0 : Int) < (s : Int) := by omega
        by_cases h1 : le = 0
        · subst h1
          have Hr := Lib.hid (show decide (need ≤ mo - tp) = carryS l s load need by rw [← hfi]; simp [h0])
          clear hfi Hfi
          go_wp2
          go_ret2
          exact ⟨by rw [Hfe.out, ← Hr.out]; rfl, hb⟩
        · have h1' : (le == 0) = false := by simpa using h1
          have Hr := Lib.hid (show false = carryS l s load need by rw [← hfi, h1']; simp)
          clear hfi Hfi
          go_wp2
          go_ret2
          exact ⟨by rw [Hfe.out, ← Hr.out]; rfl, hb⟩
      · obtain rfl : s = 0 := by omega
        have Hr := Lib.hid (show false = carryS l 0 load need by rw [← hfi]; simp)
        clear hfi Hfi
        go_wp2
        go_ret2
        exact ⟨by rw [Hfe.out, ← Hr.out]; rfl, hb⟩
end Go.Proofs.Ytopfhinnamhoiaa
