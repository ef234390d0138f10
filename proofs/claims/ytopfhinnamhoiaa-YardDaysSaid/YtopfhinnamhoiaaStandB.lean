/- Walk: stand, Stand. -/
import Derived.Test.YtopfhinnamhoiaaStandA
namespace Go.Proofs.Ytopfhinnamhoiaa
open Go.RowKit Go.Bs Go.Yd Go.Pl Go.Sort
attribute [local go_sem] run_store_func run_store_map

def Yrd.stand (y : Yrd) : Option (List Int) := standR y (foeL y.foes) y.boxes.length y.needs.length []
def OptPost (R : Option (List Int)) (w : World) (e : Ending) (w' : World) : Prop :=
  ∃ r, e = .returned (.tuple #[r, .bool R.isSome]) ∧ FreshL w w' 1 encI r (R.getD []) ∧ Below w.heap.size w w'

theorem Yrd.okB_spec {y : Yrd} (h : Yrd.okB y = true) : (1 ≤ y.boxes.length ∧ y.boxes.length ≤ 8) ∧ y.needs.length ≤ 8 ∧ y.foes.length ≤ 20 ∧ (∀ x ∈ y.boxes, 0 ≤ x ∧ x ≤ 100000) ∧ (∀ x ∈ y.needs, 0 ≤ x ∧ x ≤ 100000) ∧ ∀ p ∈ y.foes, (0 ≤ p.1 ∧ p.1 < y.needs.length) ∧ (0 ≤ p.2 ∧ p.2 < y.needs.length) ∧ p.1 ≠ p.2 := by
  simp only [Yrd.okB, boxB, foeB, Bool.and_eq_true, decide_eq_true_eq, List.all_eq_true] at h
  obtain ⟨h1, h2, h3, h4, h5, h6⟩ := h
  refine ⟨by omega, by omega, by omega, h2, h4, fun p hp => ?_⟩
  have := h6 p hp
  exact ⟨by omega, by omega, this.2.2⟩

set_option maxRecDepth 100000 in
set_option maxHeartbeats 2000000 in
theorem stand_any (y : Yrd) (A1 A2 A3 : Option Addr) (n1 n2 n3 c1 c2 c3 : Nat) (w : World) (h1 : y.boxes.length = n1) (h2 : y.needs.length = n2) (h3 : y.foes.length = n3) (hc2 : n2 ≤ c2) (hok : Yrd.okB y = true) (hd : YdAt w y A1 A2 A3) :
    Calls Try.prog 81 #[.agg #[.slice A1 n1 c1, .slice A2 n2 c2, .slice A3 n3 c3]] w (OptPost (Yrd.stand y) w) := by
  obtain ⟨k1, k2, k3, k4, k5, k6⟩ := Yrd.okB_spec hok
  have hS : Yrd.stand y = standR y (foeL y.foes) n1 n2 [] := by unfold Yrd.stand; rw [h1, h2]
  have HS := Lib.hid hS
  have eg := enters_of Try.func108 (by kernel_rfl) rfl
  unfold Enters at eg
  have K1 := Lib.hid (Blk.new w 61 [.slice A1 n1 c1, .slice A2 n2 c2, .slice A3 n3 c3])
  have hb0 := ext_alloc w (.cells #[.slice A1 n1 c1, .slice A2 n2 c2, .slice A3 n3 c3] 61)
  have hd0 := hd.ext hb0
  rw [h1] at k1
  clear hS hd k4 k5
  go_enter Try.func81, Try.ntmps81
  go_wp2_with fail
  refine (foes_any y A1 A2 A3 n1 n2 n3 c1 c2 c3 _ h3 (by omega) hd0 (fun p hp => by have := k6 p hp; omega)).mono ?_
  rintro e w1 ⟨bm, rfl, hbm, hpm, hb1⟩
  have hb2 := ext_trans hb0 hb1
  have hd1 := hd0.ext hb1
  have K2 := Lib.hid (K1.out.ext hb1)
  clear k6
  go_upto_region 4 with fail
  have hb3 : Below w1.heap.size w1 ((w1.alloc (.cells #[.map (some bm)] 138)).alloc (.cells #[.func (.func 108) #[] #[.pointer (some ⟨w.heap.size, 0, none⟩), .pointer (some ⟨w1.heap.size, 0, none⟩), .pointer (some ⟨w1.heap.size + 1, 0, none⟩)]] 164)) := ((Below.refl _ _).alloc (Nat.le_refl _) _).alloc (by simp) _
  have k5 : Blk ((w1.alloc (.cells #[.map (some bm)] 138)).alloc (.cells #[.func (.func 108) #[] #[.pointer (some ⟨w.heap.size, 0, none⟩), .pointer (some ⟨w1.heap.size, 0, none⟩), .pointer (some ⟨w1.heap.size + 1, 0, none⟩)]] 164)) (w1.heap.size + 1) 164 [.func (.func 108) #[] #[.pointer (some ⟨w.heap.size, 0, none⟩), .pointer (some ⟨w1.heap.size, 0, none⟩), .pointer (some ⟨w1.heap.size + 1, 0, none⟩)]] := by
    have := Blk.new (w1.alloc (.cells #[.map (some bm)] 138)) 164 [.func (.func 108) #[] #[.pointer (some ⟨w.heap.size, 0, none⟩), .pointer (some ⟨w1.heap.size, 0, none⟩), .pointer (some ⟨w1.heap.size + 1, 0, none⟩)]]
    simpa using this
  have k4 : Blk ((w1.alloc (.cells #[.map (some bm)] 138)).alloc (.cells #[.func (.func 108) #[] #[.pointer (some ⟨w.heap.size, 0, none⟩), .pointer (some ⟨w1.heap.size, 0, none⟩), .pointer (some ⟨w1.heap.size + 1, 0, none⟩)]] 164)) w1.heap.size 138 [.map (some bm)] := (Blk.new w1 138 [.map (some bm)]).alloc _
  have hE : EnvS y A1 A2 A3 n1 n2 n3 c1 c2 c3 w.heap.size w1.heap.size (w1.heap.size + 1) bm (foeL y.foes) ((w1.alloc (.cells #[.map (some bm)] 138)).alloc (.cells #[.func (.func 108) #[] #[.pointer (some ⟨w.heap.size, 0, none⟩), .pointer (some ⟨w1.heap.size, 0, none⟩), .pointer (some ⟨w1.heap.size + 1, 0, none⟩)]] 164)) := ⟨K2.out.ext hb3, k4, k5, hd1.ext hb3, hpm.ext hb3⟩
  have x5 := k5.cell (i := 0) rfl
  generalize ((w1.alloc (.cells #[.map (some bm)] 138)).alloc (.cells #[.func (.func 108) #[] #[.pointer (some ⟨w.heap.size, 0, none⟩), .pointer (some ⟨w1.heap.size, 0, none⟩), .pointer (some ⟨w1.heap.size + 1, 0, none⟩)]] 164)) = W at *
  have hb4 := ext_trans hb2 hb3
  clear k4 k5 hb3 hb2 hb1 hpm hd1 hb0 hd0 K1 K2
  go_wp2_with fail
  refine (stand1_any y A1 A2 A3 n1 n2 n3 c1 c2 c3 w.heap.size w1.heap.size (w1.heap.size + 1) bm (foeL y.foes) W hE h1 h2 (by omega) (by omega) hc2 n2 [] (.slice none 0 0) W (by simp) (ext_refl _) OwnL.nil).mono ?_
  rintro e w5 ⟨r, rfl, hgr, -, hfr⟩
  have hb5 : Below W.heap.size W w5 := ⟨hgr.os, hgr.tape, hgr.output, hgr.size, fun k hk => hgr.block k hk (by simp [Value.ownBlock])⟩
  rw [← HS.out] at hfr ⊢
  go_wp2
  go_ret2
  exact ⟨_, rfl, hfr.older hb4.size, ext_trans hb4 hb5⟩

def StandR (y : Yrd) : List Int × Int := if Yrd.okB y then (match Yrd.stand y with | some l => (l, 0) | none => ([], 7)) else ([], 1)
def StandOut (R : List Int × Int) (w : World) (e : Ending) (w' : World) : Prop :=
  ∃ v, e = .returned (.tuple #[v, .int .i64 R.2]) ∧ FreshL w w' 1 encI v R.1 ∧ Below w.heap.size w w'
set_option maxRecDepth 100000 in
set_option maxHeartbeats 1000000 in
theorem Stand_any (y : Yrd) (A1 A2 A3 : Option Addr) (n1 n2 n3 c1 c2 c3 : Nat) (w : World) (h1 : y.boxes.length = n1) (h2 : y.needs.length = n2) (h3 : y.foes.length = n3) (m1 : n1 ≤ 9223372036854775807) (m2 : n2 ≤ 9223372036854775807) (m3 : n3 ≤ 9223372036854775807) (hc2 : n2 ≤ c2) (hd : YdAt w y A1 A2 A3) :
    Calls Try.prog 33 #[.agg #[.slice A1 n1 c1, .slice A2 n2 c2, .slice A3 n3 c3]] w (StandOut (StandR y) w) := by
  have hb0 := ext_alloc w (.cells #[.slice A1 n1 c1, .slice A2 n2 c2, .slice A3 n3 c3] 61)
  have HV := Lib.hid (yvalid_any y A1 A2 A3 n1 n2 n3 c1 c2 c3 _ h1 h2 h3 m1 m2 m3 (hd.ext hb0))
  have K1 := Lib.hid (Blk.new w 61 [.slice A1 n1 c1, .slice A2 n2 c2, .slice A3 n3 c3])
  cases hv : Yrd.okB y
  · have HR := Lib.hid (show StandR y = ([], 1) by unfold StandR; rw [hv]; rfl)
    rw [hv] at HV
    clear hv h1 h2 h3 m1 m2 m3 hd
    go_enter Try.func33, Try.ntmps33
    go_wp2_with fail
    refine HV.out.mono ?_; rintro e w1 ⟨rfl, hb1⟩
    go_wp2
    rw [HR.out]
    go_ret2
    exact ⟨_, rfl, FreshL.nil _ _ _ _, ext_trans hb0 hb1⟩
  · have Hv := Lib.hid hv
    rw [hv] at HV
    clear hv m1 m2 m3
    go_enter Try.func33, Try.ntmps33
    go_wp2_with fail
    refine HV.out.mono ?_; rintro e w1 ⟨rfl, hb1⟩
    have hb2 := ext_trans hb0 hb1
    have hK := K1.out.ext hb1
    have x0 := hK.cell (i := 0) rfl
    have x1 := hK.cell (i := 1) rfl
    have x2 := hK.cell (i := 2) rfl
    go_wp2_with fail
    refine (stand_any y A1 A2 A3 n1 n2 n3 c1 c2 c3 w1 h1 h2 h3 hc2 Hv.out (hd.ext hb2)).mono ?_
    rintro e w2 ⟨r, rfl, hr, hb3⟩
    have hb4 := ext_trans hb2 hb3
    clear x0 x1 x2
    cases hs : Yrd.stand y with
    | none =>
      have HR := Lib.hid (show StandR y = ([], 7) by unfold StandR; rw [Hv.out, if_pos rfl, hs])
      clear hs hr
      simp only [Option.isSome_none]
      go_wp2
      rw [HR.out]
      go_ret2
      exact ⟨_, rfl, FreshL.nil _ _ _ _, hb4⟩
    | some l =>
      have HR := Lib.hid (show StandR y = (l, 0) by unfold StandR; rw [Hv.out, if_pos rfl, hs])
      rw [hs] at hr
      clear hs
      simp only [Option.isSome_some]
      go_wp2
      rw [HR.out]
      go_ret2
      exact ⟨_, rfl, hr.older hb2.size, hb4⟩
end Go.Proofs.Ytopfhinnamhoiaa
