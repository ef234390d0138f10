/- Walk: Climb. (Printed by mk_clba.py.) -/
import Derived.Test.YtbpmfaibcibleaaSeaF
import Derived.Test.YtbpmfaibcibleaaClbP
namespace Go.Proofs.Ytbpmfaibcibleaa
open Go.RowKit Go.Bs Go.Wg Go.Pl Go.Sort
set_option maxHeartbeats 2000000 in
theorem after_any (ts : List Th) (g : Nat → Int) (T : Option Addr) (c n b1 b2 G i : Nat) (need : Int) (W : World) (hn : ts.length = n) (h14 : n ≤ 14) (hok : ∀ t ∈ ts, t.Ok) (ht : Cells W T 4 Th.enc ts) (h1 : Blk W b1 46 [.slice T n c]) (h2 : Blk W b2 35 [.slice (some ⟨G, 0, none⟩) n n]) (hG : IArr W G 3 (tab n g))
    (hi : i ≤ n) (hg : ∀ k, 0 ≤ g k ∧ g k ≤ 14) (x : Int) (hx : x = i) :
    Calls Try.prog 77 #[.int .i64 x, .int .i64 need, .pointer (some ⟨b1, 0, none⟩), .pointer (some ⟨b2, 0, none⟩)] W fun e w' => e = .returned (.tuple #[.int .i64 (scanC ts g need i (n - i)).1, .int .i64 (scanC ts g need i (n - i)).2]) ∧ W = w' := by
  subst hx
  have Hn := Lib.hid hn
  have Hok := Lib.hid hok
  have Hg := Lib.hid hg
  have Hs := Lib.hid (fun m => scanC_bd (ts := ts) (g := g) (B := 14) (fun k => (hg k).2) (by omega) need i m)
  generalize hres : scanC ts g need i (n - i) = res
  have Hres := Lib.hid hres
  clear hres hn hok hg
  have z1 : W.cell? ⟨b1, 0, none⟩ = _ := h1.cell (i := 0) rfl
  have hlt1 := h1.lt
  go_enter Try.func77, Try.ntmps77
  go_wp2
  clear z1
  go_loop [6, 7, 8] (fun a b t => ∃ m : Nat, t = .int .i64 ((i + m : Nat) : Int) ∧ i + m ≤ n ∧ a = .int .i64 (scanC ts g need i m).1 ∧ b = .int .i64 (scanC ts g need i m).2) (fun _ _ t => n - (intOf t).toNat)
  case atStart => exact ⟨0, rfl, by omega, rfl, rfl⟩
  case round =>
    obtain ⟨m, rfl, hm, rfl, rfl⟩ := hrel
    have hsb := Hs.out m
    have HS := Lib.hid (show scanC ts g need i (m + 1) = stpC ts g need (scanC ts g need i m) (i + m) from rfl)
    unfold stpC at HS
    have hadd : i + (m + 1) = i + m + 1 := by omega
    have Hadd := Lib.hid hadd
    clear hadd
    generalize hr : scanC ts g need i m = r at *
    obtain ⟨ra, rb⟩ := r
    have Hr := Lib.hid hr
    clear hr
    simp only at hsb
    generalize hk : i + m = k at *
    have Hk := Lib.hid hk
    clear hk
    have z1 : W.cell? ⟨b1, 0, none⟩ = _ := h1.cell (i := 0) rfl
    by_cases hlt : k < n
    · have hkt : k < ts.length := by rw [Hn.out]; exact hlt
      have hlt' : (k : Int) < (n : Int) := by omega
      obtain ⟨b, off, rfl, -, -, -, -, d3⟩ := ht.at4 hkt rfl
      have hne := (Hok.out _ (List.getElem_mem hkt)).need
      have z2 : W.cell? ⟨b2, 0, none⟩ = _ := h2.cell (i := 0) rfl
      have cG := hG.cell (tab_get g hlt)
      have hgk := Hg.out k
      rw [thAt_eq hkt] at HS
      generalize ts[k].need = a at *
      generalize g k = gk at *
      by_cases h3 : need < a
      · by_cases h4 : ra < gk
        · rw [if_pos ⟨h3, h4⟩] at HS
          go_wp2
          go_round
          case rel => exact ⟨m + 1, by rw [Hadd.out]; go_num, by rw [Hadd.out]; omega, by rw [HS.out], by rw [HS.out]⟩
          case measure => simp [intOf]; omega
        · rw [if_neg (fun h => h4 h.2)] at HS
          go_wp2
          go_round
          case rel => exact ⟨m + 1, by rw [Hadd.out]; go_num, by rw [Hadd.out]; omega, by rw [HS.out], by rw [HS.out]⟩
          case measure => simp [intOf]; omega
      · rw [if_neg (fun h => h3 h.1)] at HS
        have h3' : decide (need < a) = false := by simpa using h3
        go_wp2
        go_round
        case rel => exact ⟨m + 1, by rw [Hadd.out]; go_num, by rw [Hadd.out]; omega, by rw [HS.out], by rw [HS.out]⟩
        case measure => simp [intOf]; omega
    · have hmn : m = n - i := by have := Hk.out; omega
      have Hre := Lib.hid (show res = (ra, rb) by rw [← Hres.out, ← hmn]; exact Hr.out)
      go_wp2
      go_ret2
      exact ⟨by rw [Hre.out]; rfl, rfl⟩
/-- what Climb returns -/
def ClR (ts : List Th) (w : World) (e : Ending) (w' : World) : Prop :=
  Below w.heap.size w w' ∧ ∃ v, e = .returned (.tuple #[v, .int .i64 (cargoE ts 14)]) ∧ FreshL w w' 1 Go.Bs.encI v (if cargoE ts 14 = 0 then climbL ts else [])
theorem ClR.mk {ts : List Th} {w w' : World} {v : Value} {l : List Int} {c : Int} (h : cargoE ts 14 = c) (h2 : (if c = 0 then climbL ts else []) = l) (hb : Below w.heap.size w w') (hv : FreshL w w' 1 Go.Bs.encI v l) : ClR ts w (.returned (.tuple #[v, .int .i64 c])) w' := ⟨hb, v, by rw [h], by rw [h, h2]; exact hv⟩
theorem lngT_upd (ts : List Th) (n m : Nat) : upd (lngT ts n m) (n - (m + 1)) ((scanC ts (lngT ts n m) (thAt ts (n - (m + 1) : Nat)).need (n - (m + 1) + 1) m).1 + 1) = lngT ts n (m + 1) := by
  funext k
  unfold upd
  conv => rhs; unfold lngT
set_option maxRecDepth 100000 in
set_option maxHeartbeats 4000000 in
theorem Climb_any (ts : List Th) (T : Option Addr) (n c : Nat) (w : World) (hn : ts.length = n) (hm : n ≤ 9223372036854775807) (ht : Cells w T 4 Th.enc ts) :
    Calls Try.prog 41 #[.slice T n c] w (ClR ts w) := by
  have hb0 := ext_alloc w (.cells #[.slice T n c] 46)
  have hP := Blk.new w 46 [.slice T n c]
  have ht0 := ht.ext hb0
  have C1 := Lib.hid (cargo_any ts T n c 14 (w.alloc (.cells #[.slice T n c] 46)) hn hm ht0)
  have Hn := Lib.hid hn
  generalize hce : cargoE ts 14 = ce at *
  have Hce := Lib.hid hce
  clear hce hn ht
  go_enter Try.func41, Try.ntmps41
  go_upto_region 1 with fail
  change Blk (w.alloc (.cells #[.slice T n c] 46)) _ _ _ at hP
  generalize w.alloc (.cells #[.slice T n c] 46) = W0 at *
  have q0 : W0.cell? ⟨w.heap.size, 0, none⟩ = _ := hP.cell (i := 0) rfl
  have hlt := hP.lt
  go_wp2_with fail
  refine C1.out.mono ?_; rintro e W1 ⟨rfl, hx1⟩
  have hb1 := ext_trans hb0 hx1
  have hP1 := hP.ext hx1
  have ht1 := ht0.ext hx1
  clear q0 hlt C1 hb0 hP ht0 hx1
  by_cases h0 : ce = 0
  case neg =>
    have h00 : (ce != 0) = true := by rw [bne_iff_ne]; exact h0
    have Hr := Lib.hid (show (if ce = 0 then climbL ts else []) = [] by rw [if_neg h0])
    clear h0
    go_wp2
    go_ret2
    exact ClR.mk Hce.out Hr.out hb1 (FreshL.nil _ _ _ _)
  case pos =>
  subst h0
  have h00 : ((0 : Int) != 0) = false := rfl
  obtain ⟨h14, hok⟩ := cargoE_zero.1 Hce.out
  rw [Hn.out] at h14
  have Hok := Lib.hid hok
  clear hok
  have hmk := mk35 n (by omega)
  have q0 : W1.cell? ⟨w.heap.size, 0, none⟩ = _ := hP1.cell (i := 0) rfl
  have hlt := hP1.lt
  have hn0 : (0 : Int) ≤ n := by omega
  go_upto_region 5 with fail
  have hG := (Blk.new W1 3 ((tab n fun _ => 0).map (Value.int .i64))).alloc (.cells #[.slice (some ⟨W1.heap.size, 0, none⟩) n n] 35)
  have hB := Blk.new (W1.alloc (.cells ((tab n fun _ => 0).map (Value.int .i64)).toArray 3)) 35 [.slice (some ⟨W1.heap.size, 0, none⟩) n n]
  rw [World.size_alloc] at hB
  have hx2 : Below W1.heap.size W1 ((W1.alloc (.cells ((tab n fun _ => 0).map (Value.int .i64)).toArray 3)).alloc (.cells #[.slice (some ⟨W1.heap.size, 0, none⟩) n n] 35)) := ((Below.refl _ _).alloc (Nat.le_refl _) _).alloc (by simp) _
  change IArr _ _ _ _ at hG
  change Blk ((W1.alloc (.cells ((tab n fun _ => 0).map (Value.int .i64)).toArray 3)).alloc (.cells #[.slice (some ⟨W1.heap.size, 0, none⟩) n n] 35)) _ _ _ at hB
  clear hmk q0 hlt
  generalize (W1.alloc (.cells ((tab n fun _ => 0).map (Value.int .i64)).toArray 3)).alloc (.cells #[.slice (some ⟨W1.heap.size, 0, none⟩) n n] 35) = W2 at *
  have hP2 := hP1.ext hx2
  have ht2 := ht1.ext hx2
  have hb2 := ext_trans hb1 hx2
  have hG0 : IArr W2 W1.heap.size 3 (tab n (lngT ts n 0)) := hG
  have hPlt := hP1.lt
  have hGlt := Wg.IArr.lt' hG0
  have hBlt := hB.lt
  have HT := Lib.hid (cells_lt ht1 (by intro x; simp [Th.enc]))
  clear hG hx2 hP1 ht1
  have q0 : W2.cell? ⟨w.heap.size, 0, none⟩ = _ := hP2.cell (i := 0) rfl
  go_wp2
  clear q0
  go_loopw [7] (fun t wr => ∃ (m : Nat) (x : Int), t = .int .i64 x ∧ x = (n : Int) - 1 - m ∧ m ≤ n ∧ IArr wr W1.heap.size 3 (tab n (lngT ts n m)) ∧ Dr.Bel [W1.heap.size] W2 wr) (fun t _ => (intOf t + 1).toNat)
  case atStart => exact ⟨0, _, rfl, by omega, by omega, hG0, Dr.Bel.refl _ _⟩
  case round =>
    clear hG0
    obtain ⟨m, x, rfl, hx, hmn, hG, hb⟩ := hrel
    have hPr := hb.blk hP2 (by simp; omega)
    have hBr := hb.blk hB (by simp)
    have htr : Cells wr T 4 Th.enc ts := cells_bel_or ht2 hb (fun k hk => (HT.out k hk).imp (fun h => by simp; omega) id)
    by_cases hlt : m < n
    · obtain ⟨i, hi⟩ : ∃ i, n - (m + 1) = i := ⟨_, rfl⟩
      have hin : i < n := by omega
      have hit : i < ts.length := by rw [Hn.out]; exact hin
      obtain rfl : x = i := by omega
      have hin' : (i : Int) < (n : Int) := by omega
      have CA := Lib.hid (after_any ts (lngT ts n m) T c n w.heap.size (W1.heap.size + 1) W1.heap.size (i + 1) ts[i].need wr Hn.out h14 Hok.out htr hPr hBr hG (by omega) (fun k => by have := lngT_bd ts n m k; omega) ((i : Int) + 1) (by omega))
      have hbd := lngT_bd ts n m
      have hsb := scanC_bd (ts := ts) (g := lngT ts n m) (B := m) (fun k => (hbd k).2) (by omega) ts[i].need (i + 1) (n - (i + 1))
      have hu := lngT_upd ts n m
      have hmi : n - (i + 1) = m := by omega
      rw [hi, thAt_eq hit, ← hmi] at hu
      rw [hmi] at hu hsb CA
      have Hu := Lib.hid hu
      clear hu hbd
      obtain ⟨b, off, rfl, -, -, -, -, d3⟩ := htr.at4 hit rfl
      have q0 : wr.cell? ⟨w.heap.size, 0, none⟩ = _ := hPr.cell (i := 0) rfl
      generalize ts[i].need = ne at *
      generalize hsc : scanC ts (lngT ts n m) ne (i + 1) m = sc at *
      obtain ⟨sa, sb⟩ := sc
      clear hsc
      simp only at hsb CA Hu
      have hwlt := hPr.lt
      have hi0 : (0 : Int) ≤ i := by omega
      have Hx := Lib.hid (show (n : Int) - 1 - ((m + 1 : Nat) : Int) = (i : Int) - 1 by omega)
      have Hi1 := Lib.hid (show ((i + 1 : Nat) : Int) = (i : Int) + 1 by omega)
      clear hi hx hmi
      go_upto_region 10 with fail
      refine CA.out.mono ?_; rintro e w1 ⟨rfl, rfl⟩
      clear CA
      go_upto_region 10 with fail
      have z1 := hBr.cell (i := 0) rfl
      have z2 := hG.cell (tab_get (lngT ts n m) hin)
      have f2 := hG.free i
      have hG2 := hG.set i (sa + 1)
      rw [tab_set, Hu.out] at hG2
      have hb2 := hb.put (p := ⟨W1.heap.size, i, none⟩) (by simp) (.int .i64 (sa + 1))
      have hGl := Wg.IArr.lt' hG
      clear q0 hG hb d3 htr
      go_wp2
      clear z1 z2 f2 hGl
      generalize World.setCell _ ⟨W1.heap.size, i, none⟩ (.int .i64 (sa + 1)) = V2 at *
      go_roundw
      case rel => exact ⟨m + 1, (i : Int) - 1, by go_num, by rw [Hx.out], by omega, hG2, hb2⟩
      case measure => simp [intOf]
    · obtain ⟨V3, hV3⟩ : ∃ V, V = wr := ⟨_, rfl⟩
      subst hV3
      have e : n = m := by omega
      subst e
      obtain rfl : x = -1 := by omega
      clear hlt hx hmn
      have Hlg := Lib.hid (show lngT ts n n = lng ts by unfold lng; rw [Hn.out])
      rw [Hlg.out] at hG
      have hb5 := hb2.trans (hb.old (by omega) (by simp; omega))
      have hwr := hb5.size
      have hPl := hPr.lt
      have Hbd := Lib.hid (show ∀ k, 0 ≤ lng ts k ∧ lng ts k ≤ 14 from fun k => by
        have := lngT_bd ts ts.length ts.length k
        have h2 := Hn.out
        show 0 ≤ lngT ts ts.length ts.length k ∧ lngT ts ts.length ts.length k ≤ 14
        omega)
      clear hb2 hb hP2 hB ht2 hb1 Hlg
      go_wp2
      go_loopw [10, 11, 12] (fun d t u w3 => ∃ (i : Nat) (need : Int) (done : List Int), t = .int .i64 i ∧ u = .int .i64 need ∧ i ≤ n ∧ done.length ≤ i ∧ OwnL w3 V3.heap.size 3 1 Go.Bs.encI d done ∧ climbL ts = done ++ clm ts (lng ts) i need ∧ Below V3.heap.size V3 w3) (fun _ t _ _ => n + 1 - (intOf t).toNat)
      case atStart => exact ⟨0, -1, [], rfl, rfl, by omega, by simp, OwnL.nil, rfl, Below.refl _ _⟩
      case round =>
        obtain ⟨w3, hV⟩ : ∃ V, V = wr := ⟨_, rfl⟩
        subst hV
        obtain ⟨i, need, done, rfl, rfl, hi, hdl, ho, hcl, hb4⟩ := hrel
        have hP4 := hPr.ext hb4
        have hB4 := hBr.ext hb4
        have ht4 := htr.ext hb4
        have hG4 := Blk.ext hG hb4
        have CA := Lib.hid (after_any ts (lng ts) T c n w.heap.size (W1.heap.size + 1) W1.heap.size i need w3 Hn.out h14 Hok.out ht4 hP4 hB4 hG4 hi Hbd.out i rfl)
        have hs4 := hb4.size
        by_cases hz : (scanC ts (lng ts) need i (n - i)).1 = 0
        · have hcl2 : (if (0 : Int) = 0 then climbL ts else []) = done := by rw [if_pos rfl, hcl, clm_end (by rw [Hn.out]; exact hz), List.append_nil]
          have Hcl2 := Lib.hid hcl2
          clear hcl hcl2
          generalize scanC ts (lng ts) need i (n - i) = sc at *
          obtain ⟨sa, sb⟩ := sc
          simp only at hz CA
          subst hz
          go_wp2_with fail
          refine CA.out.mono ?_; rintro e w4 ⟨rfl, rfl⟩
          clear CA
          go_wp2
          go_ret2
          exact ClR.mk Hce.out Hcl2.out (ext_trans hb5 hb4) (FreshL.of_own ho Go.Bs.encI_len (by omega))
        · obtain ⟨k, e, hk1, hk2, -⟩ := scanC_hit need i (n - i) hz
          have hkn : k < n := by omega
          have hkt : k < ts.length := by rw [Hn.out]; exact hkn
          have hcl2 := hcl
          rw [clm_step (by rw [Hn.out]; exact hi) (by rw [Hn.out]; exact hz) (by rw [Hn.out]; exact e), ← List.singleton_append, ← List.append_assoc, thAt_eq hkt] at hcl2
          have Hcl2 := Lib.hid hcl2
          obtain ⟨b, off, rfl, -, -, -, -, d3⟩ := ht4.at4 hkt rfl
          have HD := Lib.hid (show ∀ W, Below V3.heap.size V3 W → W.cell? ⟨b, off + k * 4 + 3, none⟩ = some (.int .i64 ts[k].need) from fun W h => by
            obtain ⟨b', off', e, -, -, -, -, d⟩ := (htr.ext h).at4 hkt rfl
            cases e
            exact d)
          clear hcl hcl2 d3
          generalize scanC ts (lng ts) need i (n - i) = sc at *
          obtain ⟨sa, sb⟩ := sc
          simp only at hz CA e
          subst e
          have hzb : decide (sa = 0) = false := by simpa using hz
          have hkn' : (k : Int) < (n : Int) := by omega
          generalize ts[k].need = ne at *
          go_wp2_with fail
          refine CA.out.mono ?_; rintro e w4 ⟨rfl, rfl⟩
          clear CA
          have hnew := Blk.new w3 3 [.int .i64 (k : Int)]
          go_wp2_with (at_builtin; refine app1 Go.Bs.encI 35 3 1 8 et35 (by decide) (by decide) Go.Bs.encI_len Go.Bs.encI_one rfl _ _ rfl V3.heap.size _ done rfl (ho.alloc _) w3.heap.size rfl (k : Int) (Go.Bs.encI_cell (hnew.cell rfl)) (by omega) (by simp; omega) ?_; intro g' cap' w' hown' hb6 _ _)
          have hb7 := (hb4.alloc hs4 _).trans hb6
          clear hb6 hnew
          go_upto_region 17 with fail
          refine Dr.wp_region_plan 9 [] (.q [0, 1, 2, 3, 4, 5, 6, 7, 8] .done) (by kernel_rfl) (by kernel_rfl) ?_
          have hb8 := hb7.drew
          have ho8 := hown'.drew
          clear hb7 hown'
          generalize hW8 : World.drew w' = W8 at *
          clear hW8
          have q0 := Dr.cell0 ((hPr.ext hb8).cell (i := 0) rfl)
          have z1 := Dr.cell0 (HD.out W8 hb8)
          refine Dr.plan_q (l := [_, _, _, _, _, _, _, _, _]) rfl (fun K hK => ?_)
          iterate 9 (go_big_quiet_step (fail))
          refine wpQuiet_nil (hK _ ?_); clear hK K
          refine Dr.plan_end rfl ?_
          go_wp2
          go_roundw
          case rel => exact ⟨k + 1, ne, done ++ [(k : Int)], by go_num, rfl, by omega, by simp; omega, ho8, Hcl2.out, hb8⟩
          case measure => simp [intOf]; omega
end Go.Proofs.Ytbpmfaibcibleaa
