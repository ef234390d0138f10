/- Walks: route: Tour.valid and check at a right tour. -/
import Derived.Test.YtilkoooahoecfaaErnT
namespace Go.Proofs.Ytilkoooahoecfaa.Er
open Go.RowKit Go.Bs Go.Pl Go.Sort Go.Er
set_option maxRecDepth 100000 in
set_option maxHeartbeats 2000000 in
theorem rvalid_t (t : TrV) (w : World) (hM : TrM w t) (ht : TrOk t) (hca : t.tw.length ≤ t.ca) : Calls Try.prog 29 #[t.val] w fun e w' => e = .returned (.bool true) ∧ Below w.heap.size w w' := by
  have hx := ext_alloc w (.cells t.cells.toArray 33)
  have hB := Blk.new w 33 t.cells
  have hM1 := hM.ext hx
  clear hM
  have Ht := Lib.hid ht
  have hn2 := ht.n2
  have hn9 := ht.n9
  have hnl := ht.nl
  clear ht
  unfold TrV.val TrV.cells at *
  obtain ⟨b, off, hA, hc⟩ := tw_at hM1.tw (show 0 < t.tw.length by omega)
  obtain ⟨b3, off3, hBB, -⟩ := hM1.lg.at1 (show 0 < t.lg.length by omega) rfl
  have r0 := hc 0 _ rfl
  have r1 := hc 1 _ rfl
  have r2 := hc 2 _ rfl
  have r3 := hc 3 _ rfl
  have r4 := hc 4 _ rfl
  have r5 := hc 5 _ rfl
  have r6 := hc 6 _ rfl
  have r7 := hc 7 _ rfl
  have r8 := hc 8 _ rfl
  simp only [Nat.zero_mul, Nat.add_zero] at r0 r1 r2 r3 r4 r5 r6 r7 r8
  have Hv0 := Lib.hid (getD_at t.tw (show 0 < t.tw.length by omega) default)
  clear hc
  generalize (t.tw[0]'(by omega)) = v0 at *
  have CQ := Lib.hid (fun V => quarters_t v0 V (by rw [← Hv0.out]; exact Ht.out.home))
  unfold TwV.val at CQ
  have C0 := Lib.hid (fun V => rwithin_t Ht.out.days V)
  have C1 := Lib.hid (fun V => rwithin_t Ht.out.shift V)
  have C2 := Lib.hid (fun V => rwithin_t Ht.out.size V)
  have C3 := Lib.hid (fun V => rwithin_t (show (2 : Int) ≤ (t.tw.length : Int) ∧ (t.tw.length : Int) ≤ 9 by omega) V)
  have hM2 := Lib.hid hM1
  have hTl := Lib.hid (show Cells (w.alloc (.cells #[.int .i64 t.days, .int .i64 t.shift, .int .i64 t.size, .slice t.A t.tw.length t.ca, .slice t.B t.lg.length t.cb] 33)) (some ⟨b, off + 9, none⟩) 9 TwV.enc (t.tw.drop 1) from fun i x hi => by
    rw [List.getElem?_drop] at hi
    obtain ⟨b', off', e, h⟩ := hM1.tw (1 + i) x hi
    rw [hA] at e
    cases e
    refine ⟨b, off + 9, rfl, fun j u hj => ?_⟩
    have := h j u hj
    rwa [show off + ((1 + i) * 9 + j) = off + 9 + (i * 9 + j) by omega] at this)
  have hD0 : (w.alloc (.cells #[.int .i64 t.days, .int .i64 t.shift, .int .i64 t.size, .slice t.A t.tw.length t.ca, .slice t.B t.lg.length t.cb] 33)).cell? ⟨w.heap.size, 0, none⟩ = some (.int .i64 t.days) := hB.cell (i := 0) rfl
  have CT := Lib.hid (fun V (hV : Below (w.alloc (.cells #[.int .i64 t.days, .int .i64 t.shift, .int .i64 t.size, .slice t.A t.tw.length t.ca, .slice t.B t.lg.length t.cb] 33)).heap.size (w.alloc (.cells #[.int .i64 t.days, .int .i64 t.shift, .int .i64 t.size, .slice t.A t.tw.length t.ca, .slice t.B t.lg.length t.cb] 33)) V) c => all_tw 56 #[] #[.pointer (some ⟨w.heap.size, 0, none⟩)] (fun _ => true) (some ⟨b, off + 9, none⟩) (t.tw.length - 1) c (t.tw.drop 1) V (enters_of Try.func56 (by kernel_rfl) rfl) (by simp) (by omega) (hTl.out.ext hV)
    (tw_ok _ t.days w.heap.size V Ht.out.days (cell_ext hD0 hV) (fun v hv => (hM2.out.town v (List.mem_of_mem_drop hv)).ext hV) (fun v hv => by
      obtain ⟨i, hi, rfl⟩ := List.mem_iff_getElem.1 hv
      rw [List.length_drop] at hi
      have h1 := Ht.out.town (1 + i) (by omega) (by omega)
      rw [getD_at _ (show 1 + i < t.tw.length by omega)] at h1
      rw [List.getElem_drop]
      exact h1)))
  rw [all_true] at CT
  have CL := Lib.hid (fun (V : World) (l : List (Int × Int)) A n c (hl : l.length = n) (hn : n ≤ 1000) (hV : Cells V A 2 encR l) (h : ∀ x ∈ l, 0 ≤ x.1 ∧ x.1 ≤ 200 ∧ 0 ≤ x.2 ∧ x.2 ≤ 1000000) => all_leg 59 #[] #[] (fun _ => true) A n c l V (enters_of Try.func59 (by kernel_rfl) rfl) hl (by omega) hV (leg_ok l V h))
  have HA := Lib.hid hA
  have HBB := Lib.hid hBB
  have Hnl := Lib.hid hnl
  clear hA hBB hnl
  go_enter Try.func29, Try.ntmps29
  go_upto_region 2 with fail
  change Blk (w.alloc (.cells #[.int .i64 t.days, .int .i64 t.shift, .int .i64 t.size, .slice t.A t.tw.length t.ca, .slice t.B t.lg.length t.cb] 33)) w.heap.size _ _ at hB
  generalize w.alloc (.cells #[.int .i64 t.days, .int .i64 t.shift, .int .i64 t.size, .slice t.A t.tw.length t.ca, .slice t.B t.lg.length t.cb] 33) = W1 at *
  clear hM1 hD0
  rw [HA.out, HBB.out, Hnl.out] at hB ⊢
  generalize hnn : t.tw.length = n at *
  have Hn := Lib.hid hnn
  clear hnn
  have c0 : W1.cell? ⟨w.heap.size, 0, none⟩ = _ := hB.cell (i := 0) rfl
  have c1 : W1.cell? ⟨w.heap.size, 1, none⟩ = _ := hB.cell (i := 1) rfl
  have c2 : W1.cell? ⟨w.heap.size, 2, none⟩ = _ := hB.cell (i := 2) rfl
  have c3 : W1.cell? ⟨w.heap.size, 3, none⟩ = _ := hB.cell (i := 3) rfl
  have c4 : W1.cell? ⟨w.heap.size, 4, none⟩ = _ := hB.cell (i := 4) rfl
  have hn0 : (0 : Int) < (n : Int) := by omega
  go_wp2_with fail
  refine (C0.out _).mono ?_; rintro e w1 ⟨rfl, rfl⟩
  go_wp2_with fail
  refine (C1.out _).mono ?_; rintro e w1 ⟨rfl, rfl⟩
  go_wp2_with fail
  refine (C2.out _).mono ?_; rintro e w1 ⟨rfl, rfl⟩
  go_wp2_with fail
  refine (C3.out _).mono ?_; rintro e w1 ⟨rfl, rfl⟩
  go_wp2_with fail
  refine (CQ.out _).mono ?_; rintro e W2 ⟨rfl, hb2⟩
  have hB2 := hB.ext hb2
  clear c0 c1 c2 c3 c4 r0 r1 r2 r3 r4 r5 r6 r7 r8 C0 C1 C2 C3 CQ
  have c3 : W2.cell? ⟨w.heap.size, 3, none⟩ = _ := hB2.cell (i := 3) rfl
  have c4 : W2.cell? ⟨w.heap.size, 4, none⟩ = _ := hB2.cell (i := 4) rfl
  have hn1 : (1 : Int) ≤ (n : Int) := by omega
  have hca1 : 1 < t.ca := by omega
  have hca2 : ¬ t.ca = 1 := by omega
  have hca3 : ¬ t.ca - 1 = 0 := by omega
  go_wp2_with fail
  refine (CT.out _ hb2 _).mono ?_; rintro e W3 ⟨rfl, hb3⟩
  have hB3 := hB2.ext hb3
  have hM3 := Lib.hid ((hM2.out.ext hb2).ext hb3)
  have hxw := ext_trans (ext_trans hx hb2) hb3
  clear c3 c4 CT hb2 hb3 hB2 hB hx hM2
  have c4 : W3.cell? ⟨w.heap.size, 4, none⟩ = _ := hB3.cell (i := 4) rfl
  go_upto_block 0 with fail
  go_wp2
  go_loopw [4, 5, 54] (fun _ _ kk wr => ∃ i : Nat, kk = .int .i64 i ∧ i ≤ n ∧ Below W3.heap.size W3 wr) (fun _ _ kk _ => n - (intOf kk).toNat)
  case atStart => exact ⟨0, rfl, by omega, Below.refl _ _⟩
  case round =>
    obtain ⟨i, rfl, hi, hb⟩ := hrel
    by_cases hlt : i < n
    · have hil : i < t.lg.length := by rw [Hnl.out]; exact hlt
      have hin : (i : Int) < (n : Int) := by omega
      have hi0 : (0 : Int) ≤ (i : Int) := by omega
      obtain ⟨b3', off3', e3, -, r9⟩ := (hM3.out.lg.ext hb).at1 hil rfl
      rw [HBB.out] at e3
      cases e3
      have hrM := (hM3.out.leg _ (List.getElem_mem hil)).1.ext hb
      have hrl := Ht.out.row i (by rw [Hn.out]; exact hlt)
      have hrd := Ht.out.diag i (by rw [Hn.out]; exact hlt)
      have hrg := fun k hk => Ht.out.leg i k (by rw [Hn.out]; exact hlt) hk
      rw [getD_at _ hil] at hrl hrd
      simp only [getD_at _ hil] at hrg
      generalize t.lg[i] = row at *
      obtain ⟨rl, rA, rc⟩ := row
      simp only at r9 hrM hrl hrd hrg
      rw [Hn.out] at hrl hrg
      obtain ⟨b6, off6, rfl, -, r10, r11⟩ := at_rng hrM (show i < rl.length by rw [hrl]; exact hlt)
      rw [hrd] at r10 r11
      have CLr := Lib.hid (fun V (hV : Below wr.heap.size wr V) => CL.out V rl (some ⟨b6, off6, none⟩) n rc hrl (by omega) (hrM.ext hV) (fun x hx => by
        obtain ⟨k, hk, rfl⟩ := List.mem_iff_getElem.1 hx
        have := hrg k (by omega)
        rwa [getD_at _ hk] at this))
      rw [all_true] at CLr
      rw [hrl] at r9
      clear hrM hrl hrd hrg
      simp only at r10 r11
      go_wp2_with fail
      refine (CLr.out _ (Below.refl _ _)).mono ?_; rintro e w1 ⟨rfl, hb1⟩
      have hb2 := ext_trans hb hb1
      clear hb hb1 CLr r9 r10 r11
      go_wp2
      go_roundw
      case rel => exact ⟨i + 1, by go_num, by omega, hb2⟩
      case measure => simp [intOf]; omega
    · obtain rfl : i = n := by omega
      go_wp2
      go_ret
      exact ⟨rfl, ext_trans hxw hb⟩
set_option maxRecDepth 100000 in
theorem rcheck_t (t : TrV) (S : Option Addr) (m c : Nat) (w : World) (hM : TrM w t) (ht : TrOk t) (hca : t.tw.length ≤ t.ca) (hm : m ≤ 8) : Calls Try.prog 26 #[t.val, .slice S m c] w fun e w' => e = .returned (.int .i64 0) ∧ Below w.heap.size w w' := by
  have hx := ext_alloc w (.cells t.cells.toArray 33)
  have hB := Blk.new w 33 t.cells
  have CV := Lib.hid (rvalid_t t _ (hM.ext hx) ht hca)
  clear hM
  unfold TrV.val TrV.cells at *
  have hm20 : ¬ (20 : Int) < (m : Int) := by omega
  clear ht
  go_enter Try.func26, Try.ntmps26
  go_wp2_with fail
  refine CV.out.mono ?_; rintro e w1 ⟨rfl, hb1⟩
  go_wp2
  go_ret
  exact ⟨rfl, ext_trans hx hb1⟩
end Go.Proofs.Ytilkoooahoecfaa.Er
