/- Walk: the reference's RightTable. -/
import Derived.Test.YtcnidhcdkbfpcaaGreatPrlG
namespace Go.Proofs.YtcnidhcdkbfpcaaGreat
open Go.RowKit Go.Bs Go.Pg Go.Pl Go.Sort
set_option maxRecDepth 100000 in
set_option maxHeartbeats 4000000 in
theorem RTable_any (s : Sh) (p : ShP) (A : Option Addr) (m c : Nat) (T : List (List Int)) (w : World) (h : ShM w s p) (hok : s.Ok) (hm : T.length = m) (hm9 : m ≤ 9223372036854775807) (hr9 : ∀ r ∈ T, r.length ≤ 9223372036854775807) (hT : TabA w A T) :
    Calls Tryz.prog 14 #[shV s p, .slice A m c] w fun e w' => e = .returned (.bool (s.rightT T)) ∧ Below w.heap.size w w' := by
  have n8 := hok.n8
  have n1 := hok.n1
  have hb0 := ext_alloc w (.cells (shC s p).toArray 26)
  have hS := Blk.new w 26 (shC s p)
  have h0 := h.ext hb0
  have hT0 := hT.ext hb0
  have Hok := Lib.hid hok
  have Hm := Lib.hid hm
  have Hr9 := Lib.hid hr9
  have hwh : s.whole = 2 ^ s.acts.length - 1 := rfl
  have Hwh := Lib.hid hwh
  have HA := Lib.hid (fun h1 h2 => shape_good (s := s) (T := T) h1 h2)
  have HB := Lib.hid (fun h => shape_bad (s := s) (T := T) h)
  have HC := Lib.hid (fun t a b h1 h2 h3 h4 => cells_bad (s := s) (T := T) (t := t) (a := a) (b := b) h1 h2 h3 h4)
  have HD := Lib.hid (fun h => cells_good (s := s) (T := T) h)
  have HR := Lib.hid (show s.rightT T = (s.shapeB T && s.cellsB T) from rfl)
  generalize hres : s.rightT T = res at *
  have Hres := Lib.hid hres
  clear h hok hm hT hwh hr9 hres
  unfold shV at *
  unfold shC at *
  go_enter Tryz.func14, Tryz.ntmps14

  go_upto_region 1 with fail
  change Blk (w.alloc (.cells #[.slice p.A s.acts.length p.cA, .slice p.R s.rest.length p.cR, .slice p.I s.ins.length p.cI, .slice p.O s.outs.length p.cO, .int .i64 s.cover, .int .i64 s.dull, .slice p.B s.before.length p.cB] 26)) _ _ _ at hS
  generalize w.alloc (.cells #[.slice p.A s.acts.length p.cA, .slice p.R s.rest.length p.cR, .slice p.I s.ins.length p.cI, .slice p.O s.outs.length p.cO, .int .i64 s.cover, .int .i64 s.dull, .slice p.B s.before.length p.cB] 26) = W0 at *
  have x0 : W0.cell? ⟨w.heap.size, 0, none⟩ = _ := hS.cell (i := 0) rfl
  go_upto_region 3 with fail
  clear x0
  have hp2 := pow_le8 n8
  have hp1 := Nat.two_pow_pos s.acts.length
  have hww : wrap64 (wrap64 ((2 : Int) ^ s.acts.length) - 1) = ((s.whole : Nat) : Int) := by
    rw [pow64 (by omega), Hwh.out]
    unfold wrap64
    omega
  rw [hww]
  have hwb : s.whole ≤ 255 := by rw [Hwh.out]; omega
  have Hws : Hid (s.whole + 1 = 2 ^ s.acts.length) := Lib.hid (by rw [Hwh.out]; omega)
  clear hp1 hp2 hww
  obtain ⟨nn, hnn⟩ : ∃ nn, s.acts.length * s.acts.length = nn := ⟨_, rfl⟩
  obtain ⟨hmul, hnn64⟩ := mul64 n8 n8 hnn
  rw [hnn] at HA HB
  have Hnn := Lib.hid hnn
  clear hnn
  by_cases hmw : m = s.whole + 1
  rotate_left
  · have hne : ((m : Int) != (s.whole : Int) + 1) = true := by simp; omega
    have hr : res = false := by
      rw [HR.out]
      cases hsb : s.shapeB T
      · rfl
      · exact absurd (Hm.out.symm.trans (HB.out hsb).1) hmw
    have HF := Lib.hid hr
    clear hr hmw
    go_wp2
    go_ret
    exact ⟨ret_congr (bool_congr HF.out.symm), hb0⟩
  have hne : ((m : Int) != (s.whole : Int) + 1) = false := by simp; omega
  have Hmw := Lib.hid hmw
  have hmw1 : s.whole < m := by omega
  clear hmw
  go_upto_region 5 with fail
  clear hne
  go_upto_block 0 with fail
  go_wp2
  go_loopw [7] (fun t wr => ∃ i : Nat, t = .int .i64 i ∧ i ≤ m ∧ Hid (∀ j (hj : j < T.length), j < i → T[j].length = nn ∧ ∀ q (hq : q < T[j].length), 0 ≤ T[j][q] ∧ T[j][q] ≤ 1000000) ∧ Below W0.heap.size W0 wr) (fun t _ => m - (intOf t).toNat)
  case atStart => exact ⟨0, rfl, by omega, Lib.hid (by intro j _ hj; omega), Below.refl _ _⟩
  case round =>
    obtain ⟨t, rfl, ht, Hrow, hbr⟩ := hrel
    have hbw := hb0.trans (hbr.mono hb0.size)
    by_cases hlt : t < m
    · have hltm : (t : Int) < (m : Int) := by omega
      have hle : (t : Int) ≤ (s.whole : Int) := by have := Hmw.out; omega
      have ht0 : (0 : Int) ≤ (t : Int) := by omega
      have htT : t < T.length := by rw [Hm.out]; exact hlt
      obtain ⟨b0, o0, A1, c1, hA1, q0, hc1⟩ := (hT0.ext hbr).row htT
      have Hbad := Lib.hid (show ¬ (T[t].length = nn ∧ ∀ q (hq : q < T[t].length), 0 ≤ T[t][q] ∧ T[t][q] ≤ 1000000) → res = false from fun hx => by
        rw [HR.out]
        cases hsb : s.shapeB T
        · rfl
        · exact absurd ((HB.out hsb).2 t htT) hx)
      have Hgood := Lib.hid (show (T[t].length = nn ∧ ∀ q (hq : q < T[t].length), 0 ≤ T[t][q] ∧ T[t][q] ≤ 1000000) → ∀ j (hj : j < T.length), j < t + 1 → T[j].length = nn ∧ ∀ q (hq : q < T[j].length), 0 ≤ T[j][q] ∧ T[j][q] ≤ 1000000 from fun hx j hj hjt => by
        rcases Nat.lt_or_ge j t with h1 | h1
        · exact Hrow.out j hj h1
        · obtain rfl : j = t := by omega
          exact hx)
      subst hA1
      clear Hrow
      generalize hr : T[t] = r at *
      have Hr := Lib.hid hr
      clear hr
      go_upto_region 8 with fail
      by_cases hrl : r.length = nn
      rotate_left
      · have hne : ((r.length : Int) != (nn : Int)) = true := by simp; omega
        have HF := Lib.hid (Hbad.out (fun h => hrl h.1))
        clear Hbad Hgood hrl
        go_wp2
        go_ret
        exact ⟨ret_congr (bool_congr HF.out.symm), hbw⟩
      have hne : ((r.length : Int) != (nn : Int)) = false := by simp; omega
      have Hrl := Lib.hid hrl
      clear hrl
      go_upto_region 10 with fail
      clear hne
      rw [hmul]
      go_upto_block 2 with fail
      clear q0 hc1
      go_wp2
      generalize wr = w4 at *
      go_loopw [8] (fun t wq => ∃ i : Nat, t = .int .i64 i ∧ i ≤ nn ∧ Hid (∀ q (hq : q < r.length), q < i → 0 ≤ r[q] ∧ r[q] ≤ 1000000) ∧ Below W0.heap.size W0 wq) (fun t _ => nn - (intOf t).toNat)
      case atStart => exact ⟨0, rfl, by omega, Lib.hid (by intro j _ hj; omega), hbr⟩
      case round =>
        obtain ⟨i, rfl, hi, Hk, hbs⟩ := hrel
        have hbws := hb0.trans (hbs.mono hb0.size)
        by_cases hlti : i < nn
        · have hlti' : (i : Int) < (nn : Int) := by omega
          have hi0 : (0 : Int) ≤ (i : Int) := by omega
          have hir : i < r.length := by rw [Hrl.out]; exact hlti
          have hir' : (i : Int) < (r.length : Int) := by omega
          obtain ⟨b0', o0', A1', c1', hA1', q0, hc1⟩ := (hT0.ext hbs).row htT
          cases hA1'
          rw [Hr.out] at q0 hc1
          obtain ⟨b1, o1, rfl, -, q1⟩ := hc1.at1 hir rfl
          have CI := Lib.hid (In_any r[i] 0 1000000 wr)
          have Hno := Lib.hid (show ¬ (0 ≤ r[i] ∧ r[i] ≤ 1000000) → res = false from fun hx => Hbad.out (fun h => hx (h.2 i hir)))
          have Hyes := Lib.hid (show (0 ≤ r[i] ∧ r[i] ≤ 1000000) → ∀ q (hq : q < r.length), q < i + 1 → 0 ≤ r[q] ∧ r[q] ≤ 1000000 from fun hx q hq hqi => by
            rcases Nat.lt_or_ge q i with h1 | h1
            · exact Hk.out q hq h1
            · obtain rfl : q = i := by omega
              exact hx)
          generalize r[i] = v at *
          cases hb : btw v 0 1000000
          · have HF := Lib.hid (Hno.out (fun hx => btw_no hb (by omega)))
            rw [hb] at CI
            clear hb Hno Hyes
            go_wp2_with fail
            refine CI.out.mono ?_; rintro e w1 ⟨rfl, rfl⟩
            go_wp2
            go_ret
            exact ⟨ret_congr (bool_congr HF.out.symm), hbws⟩
          · have HN := Lib.hid (Hyes.out (btw_iff.1 hb))
            rw [hb] at CI
            clear hb Hno Hyes
            go_wp2_with fail
            refine CI.out.mono ?_; rintro e w1 ⟨rfl, rfl⟩
            go_wp2
            go_roundw
            case rel => exact ⟨i + 1, by go_num, by omega, HN, hbs⟩
            case measure => simp [intOf]; omega
        · obtain rfl : i = nn := by omega
          have HN := Lib.hid (Hgood.out ⟨Hrl.out, fun q hq => Hk.out q hq (by rw [← Hrl.out]; exact hq)⟩)
          go_wp2
          go_roundw
          case rel => exact ⟨t + 1, by go_num, by omega, HN, hbs⟩
          case measure => simp [intOf]; omega
    · have hge : ¬ (t : Int) ≤ (s.whole : Int) := by have := Hmw.out; omega
      have hall : ∀ j (hj : j < T.length), T[j].length = nn ∧ ∀ q (hq : q < T[j].length), 0 ≤ T[j][q] ∧ T[j][q] ≤ 1000000 := fun j hj => Hrow.out j hj (by rw [Hm.out] at hj; omega)
      have Hsh := Lib.hid (HA.out (Hm.out.trans Hmw.out) hall)
      have Hall := Lib.hid hall
      have Hcb := Lib.hid (fun t a b h1 h2 h3 h4 => HC.out t a b h1 h2 h3 h4)
      have Hcg := Lib.hid (fun h => show res = true from by rw [HR.out, Hsh.out, HD.out h]; rfl)
      clear hall HA HB HC HD HR Hres Hrow
      go_upto_region 15 with fail
      clear hge
      go_upto_block 4 with fail
      go_wp2
      go_loopw [9] (fun t wq => ∃ i : Nat, t = .int .i64 i ∧ i ≤ s.whole + 1 ∧ Hid (∀ t, t < i → ∀ a, a < s.acts.length → ∀ b, b < s.acts.length → s.cellB T ⟨t, a, b⟩ = true) ∧ Below W0.heap.size W0 wq) (fun t _ => s.whole + 1 - (intOf t).toNat)
      case atStart => exact ⟨0, rfl, by omega, Lib.hid (by intro t hj; omega), hbr⟩
      case round =>
        clear hbr hbw
        obtain ⟨t, rfl, ht, Ht, hbr⟩ := hrel
        by_cases hlt : t < s.whole + 1
        rotate_left
        · obtain rfl : t = s.whole + 1 := by omega
          have hge : ¬ ((s.whole + 1 : Nat) : Int) ≤ (s.whole : Int) := by omega
          have HF := Lib.hid (Hcg.out Ht.out)
          go_wp2
          go_ret
          exact ⟨ret_congr (bool_congr HF.out.symm), hb0.trans (hbr.mono hb0.size)⟩
        have hle : (t : Int) ≤ (s.whole : Int) := by omega
        have ht0 : (0 : Int) ≤ (t : Int) := by omega
        have htm : (t : Int) < (m : Int) := by omega
        have htT : t < T.length := by rw [Hm.out]; omega
        go_upto_region 18 with fail
        clear hle
        go_upto_block 6 with fail
        go_wp2
        generalize wr = w4 at *
        go_loopw [10] (fun t' wq => ∃ i : Nat, t' = .int .i64 i ∧ i ≤ s.acts.length ∧ Hid (∀ a, a < i → ∀ b, b < s.acts.length → s.cellB T ⟨t, a, b⟩ = true) ∧ Below W0.heap.size W0 wq) (fun t _ => s.acts.length - (intOf t).toNat)
        case atStart => exact ⟨0, rfl, by omega, Lib.hid (by intro t hj; omega), hbr⟩
        case round =>
          clear hbr
          obtain ⟨a, rfl, ha, Ha, hbr⟩ := hrel
          by_cases hlta : a < s.acts.length
          rotate_left
          · obtain rfl : a = s.acts.length := by omega
            have HN := Lib.hid (show ∀ t', t' < t + 1 → ∀ a, a < s.acts.length → ∀ b, b < s.acts.length → s.cellB T ⟨t', a, b⟩ = true from fun t' h => by
              rcases Nat.lt_or_ge t' t with h1 | h1
              · exact Ht.out t' h1
              · obtain rfl : t' = t := by omega
                exact Ha.out)
            go_wp2
            go_roundw
            case rel => exact ⟨t + 1, by go_num, by omega, HN, hbr⟩
            case measure => simp [intOf]; omega
          have hlta' : (a : Int) < (s.acts.length : Int) := by omega
          have ha0 : (0 : Int) ≤ (a : Int) := by omega
          go_upto_region 21 with fail
          go_upto_block 8 with fail
          go_wp2
          generalize wr = w5 at *
          go_loopw [11] (fun t' wq => ∃ i : Nat, t' = .int .i64 i ∧ i ≤ s.acts.length ∧ Hid (∀ b, b < i → s.cellB T ⟨t, a, b⟩ = true) ∧ Below W0.heap.size W0 wq) (fun t _ => s.acts.length - (intOf t).toNat)
          case atStart => exact ⟨0, rfl, by omega, Lib.hid (by intro t hj; omega), hbr⟩
          case round =>
            clear hbr
            obtain ⟨b, rfl, hb, Hb, hbr⟩ := hrel
            by_cases hltb : b < s.acts.length
            rotate_left
            · obtain rfl : b = s.acts.length := by omega
              have HN := Lib.hid (show ∀ a', a' < a + 1 → ∀ b, b < s.acts.length → s.cellB T ⟨t, a', b⟩ = true from fun t' h => by
                rcases Nat.lt_or_ge t' a with h1 | h1
                · exact Ha.out t' h1
                · obtain rfl : t' = a := by omega
                  exact Hb.out)
              go_wp2
              go_roundw
              case rel => exact ⟨a + 1, by go_num, by omega, HN, hbr⟩
              case measure => simp [intOf]; omega
            have hltb' : (b : Int) < (s.acts.length : Int) := by omega
            have hbb0 : (0 : Int) ≤ (b : Int) := by omega
            have Hnext := Lib.hid (show s.cellB T ⟨t, a, b⟩ = true → ∀ b', b' < b + 1 → s.cellB T ⟨t, a, b'⟩ = true from fun hx b' h => by
              rcases Nat.lt_or_ge b' b with h1 | h1
              · exact Hb.out b' h1
              · obtain rfl : b' = b := by omega
                exact hx)
            have Hbad := Lib.hid (show s.cellB T ⟨t, a, b⟩ = false → res = false from fun hx => Hcb.out t a b hlt hlta hltb hx)
            have ht65 : t < 65536 := by omega
            have hkw : IntKind.u16.wrap (t : Int) = t := by rw [IntKind.wrap_u16]; omega
            have hpa := pow64 (show a < 16 by omega)
            have hreal : Sh.real ⟨t, a, b⟩ = (t.testBit a && t.testBit b && (decide (t = 2 ^ a) == decide (a = b))) := rfl
            generalize 2 ^ a = P at *
            have CA := has_any t a wr ht65 (by omega)
            have CB := has_any t b wr ht65 (by omega)
            rw [show decide (a < 16) = true by simp; omega, Bool.true_and] at CA
            rw [show decide (b < 16) = true by simp; omega, Bool.true_and] at CB
            have hal := int_beq t P
            have hab := int_beq a b
            have Hre := Lib.hid hreal
            have hSr := hS.ext hbr
            have hmr := h0.ext hbr
            clear hreal
            generalize hxa : t.testBit a = xa at *
            generalize hxb : t.testBit b = xb at *
            generalize decide (t = P) = al at *
            generalize hdab : decide (a = b) = ab at *
            have CA := Lib.hid CA
            have CB := Lib.hid CB
            have Hxa := Lib.hid hxa
            have Hxb := Lib.hid hxb
            have Hab := Lib.hid hdab
            clear hxa hxb hdab
            have Hun := Lib.hid (fun h => Hnext.out (cell_unreal (s := s) (T := T) (x := ⟨t, a, b⟩) h))
            have hreg : ∀ Q : Prop, Q → Q := fun _ h => h
            clear hreg
            cases xa
            · have HN := Lib.hid (Hun.out (by rw [Hre.out]; rfl))
              go_wp2_with fail
              refine CA.out.mono ?_; rintro e w1 ⟨rfl, rfl⟩
              go_wp2
              go_roundw
              case rel => exact ⟨b + 1, by go_num, by omega, HN, hbr⟩
              case measure => simp [intOf]; omega
            cases xb
            · have HN := Lib.hid (Hun.out (by rw [Hre.out]; rfl))
              go_wp2_with fail
              refine CA.out.mono ?_; rintro e w1 ⟨rfl, rfl⟩
              go_wp2_with fail
              refine CB.out.mono ?_; rintro e w1 ⟨rfl, rfl⟩
              go_wp2
              go_roundw
              case rel => exact ⟨b + 1, by go_num, by omega, HN, hbr⟩
              case measure => simp [intOf]; omega
            by_cases hrr : al = ab
            rotate_left
            · cases al <;> cases ab
              · exact absurd rfl hrr
              · have HN := Lib.hid (Hun.out (by rw [Hre.out]; rfl))
                clear hrr
                go_wp2_with fail
                refine CA.out.mono ?_; rintro e w1 ⟨rfl, rfl⟩
                go_wp2_with fail
                refine CB.out.mono ?_; rintro e w1 ⟨rfl, rfl⟩
                go_wp2
                go_roundw
                case rel => exact ⟨b + 1, by go_num, by omega, HN, hbr⟩
                case measure => simp [intOf]; omega
              · have HN := Lib.hid (Hun.out (by rw [Hre.out]; rfl))
                clear hrr
                go_wp2_with fail
                refine CA.out.mono ?_; rintro e w1 ⟨rfl, rfl⟩
                go_wp2_with fail
                refine CB.out.mono ?_; rintro e w1 ⟨rfl, rfl⟩
                go_wp2
                go_roundw
                case rel => exact ⟨b + 1, by go_num, by omega, HN, hbr⟩
                case measure => simp [intOf]; omega
              · exact absurd rfl hrr
            have Hre2 : Hid (Sh.real ⟨t, a, b⟩ = true) := Lib.hid (by rw [Hre.out, hrr]; simp)
            subst hrr
            clear Hre Hun
            go_wp2_with fail
            refine CA.out.mono ?_; rintro e w1 ⟨rfl, rfl⟩
            go_wp2_with fail
            refine CB.out.mono ?_; rintro e w1 ⟨rfl, rfl⟩
            clear CA CB
            go_upto_region 26 with fail
            clear hkw hpa hal hab
            have Hall2 := Lib.hid (show ∀ t (ht : t < T.length), T[t].length = nn from fun t ht => (Hall.out t ht).1)
            obtain ⟨b0, o0, b1, o1, c1, hA, q0, q1⟩ := (hT0.ext hbr).at Hnn.out Hall2.out htT hlta hltb
            subst hA
            have hbd : 0 ≤ s.atT T ⟨t, a, b⟩ ∧ s.atT T ⟨t, a, b⟩ ≤ 1000000 := by
              have hl := (Hall.out t htT).1
              have hi : a * s.acts.length + b < T[t].length := by rw [hl, ← Hnn.out]; exact tab_bd hlta hltb
              rw [atT_eq (x := ⟨t, a, b⟩) htT hi]
              exact (Hall.out t htT).2 _ hi
            have hidx := tab_bd hlta hltb
            rw [Hnn.out] at hidx
            obtain ⟨ham, ham64⟩ := mul64 (show a ≤ 8 by omega) n8 (x := a * s.acts.length) rfl
            have Hcell := Lib.hid (fun h1 h2 => cell_ok (s := s) (T := T) (x := ⟨t, a, b⟩) h1 h2)
            have Hb1 := Lib.hid (fun h1 h2 => Hbad.out (cell_bad1 (s := s) (T := T) (x := ⟨t, a, b⟩) Hre2.out h1 h2))
            have Hb2 := Lib.hid (fun c hc hm h => Hbad.out (cell_bad2 (s := s) (T := T) (x := ⟨t, a, b⟩) (c := c) Hre2.out hc hm h))
            generalize hv : s.atT T ⟨t, a, b⟩ = v at *
            generalize han : a * s.acts.length = an at *
            have Han := Lib.hid han
            clear han
            obtain ⟨ix, hix⟩ : ∃ ix : Nat, ix = an + b := ⟨_, rfl⟩
            rw [← hix] at hidx q1
            have hsum : (an : Int) + (b : Int) = (ix : Int) := by omega
            have Hix := Lib.hid hix
            clear hix
            have hix0 : (0 : Int) ≤ (ix : Int) := by omega
            have hix1 : (ix : Int) < (nn : Int) := by omega
            have Hv := Lib.hid hv
            clear hv Hbad
            have hcut0 : ∀ Q : Prop, Q → Q := fun _ h => h
            clear hcut0
            go_cut [113] (fun z Wc => z = .bool (decide (t = s.whole) && decide (v ≠ 0)) ∧ wr = Wc)
            case first =>
              by_cases htw : t = s.whole
              · have e1 : ((t : Int) == (s.whole : Int)) = true := by rw [int_beq]; simp [htw]
                have hd : decide (t = s.whole) = true := by simp [htw]
                have HD := Lib.hid hd
                clear hd htw
                by_cases hv0 : v = 0
                · have e2 : (v != 0) = false := by simp [hv0]
                  have hd2 : decide (v ≠ 0) = false := by simp [hv0]
                  have HD2 := Lib.hid hd2
                  clear hd2 hv0
                  go_wp2
                  go_meet
                  case rel => exact ⟨by rw [HD.out, HD2.out]; simp, rfl⟩
                · have e2 : (v != 0) = true := by simp [hv0]
                  have hd2 : decide (v ≠ 0) = true := by simp [hv0]
                  have HD2 := Lib.hid hd2
                  clear hd2 hv0
                  go_wp2
                  go_meet
                  case rel => exact ⟨by rw [HD.out, HD2.out]; simp, rfl⟩
              · have e1 : ((t : Int) == (s.whole : Int)) = false := by rw [int_beq]; simp [htw]
                have hd : decide (t = s.whole) = false := by simp [htw]
                have HD := Lib.hid hd
                clear hd htw
                go_wp2
                go_meet
                case rel => exact ⟨by rw [HD.out]; simp, rfl⟩
            case rest =>
              obtain ⟨rfl, rfl⟩ := hcut
              by_cases hbb : t = s.whole ∧ v ≠ 0
              · have HF := Lib.hid (Hb1.out hbb.1 hbb.2)
                have hd : (decide (t = s.whole) && decide (v ≠ 0)) = true := by simp [hbb.1, hbb.2]
                rw [hd]
                clear hd hbb
                go_wp2
                go_ret
                exact ⟨ret_congr (bool_congr HF.out.symm), hb0.trans (hbr.mono hb0.size)⟩
              have hd : (decide (t = s.whole) && decide (v ≠ 0)) = false := by
                by_cases h1 : t = s.whole
                · have : v = 0 := by
                    by_cases h2 : v = 0
                    · exact h2
                    · exact absurd ⟨h1, h2⟩ hbb
                  simp [this]
                · simp [h1]
              rw [hd]
              have Hz := Lib.hid (show t = s.whole → v = 0 from fun h1 => by
                by_cases h2 : v = 0
                · exact h2
                · exact absurd ⟨h1, h2⟩ hbb)
              clear hd hbb Hb1 q0 q1
              clear hSr hmr
              go_upto_region 28 with fail
              go_upto_block 10 with fail
              go_wp2
              generalize wr = w6 at *
              go_loopw [13] (fun t' wq => ∃ i : Nat, t' = .int .i64 i ∧ i ≤ s.acts.length ∧ Hid (∀ c, c < i → s.may ⟨t, a, b⟩ c = true → v ≤ s.chC a c + s.atT T (Sh.to ⟨t, a, b⟩ c)) ∧ Below W0.heap.size W0 wq) (fun t _ => s.acts.length - (intOf t).toNat)
              case atStart => exact ⟨0, rfl, by omega, Lib.hid (by intro t hj; omega), hbr⟩
              case round =>
                clear hbr
                obtain ⟨c, rfl, hc, Hc, hbr⟩ := hrel
                by_cases hltc : c < s.acts.length
                rotate_left
                · obtain rfl : c = s.acts.length := by omega
                  have HN := Lib.hid (Hnext.out (Hcell.out Hz.out Hc.out))
                  go_wp2
                  go_roundw
                  case rel => exact ⟨b + 1, by go_num, by omega, HN, hbr⟩
                  case measure => simp [intOf]; omega
                have hltc' : (c : Int) < (s.acts.length : Int) := by omega
                have hc0 : (0 : Int) ≤ (c : Int) := by omega
                have hSr := hS.ext hbr
                have hmr := h0.ext hbr
                have CM := Lib.hid (RMay_any s p t a b c wr hmr Hok.out ht65 hlta hltb hltc)
                have Hm6 := Lib.hid hmr
                have HSr := Lib.hid hSr
                have Hcn := Lib.hid (show (s.may ⟨t, a, b⟩ c = true → v ≤ s.chC a c + s.atT T (Sh.to ⟨t, a, b⟩ c)) → ∀ c', c' < c + 1 → s.may ⟨t, a, b⟩ c' = true → v ≤ s.chC a c' + s.atT T (Sh.to ⟨t, a, b⟩ c') from fun hx c' h => by
                  rcases Nat.lt_or_ge c' c with h1 | h1
                  · exact Hc.out c' h1
                  · obtain rfl : c' = c := by omega
                    exact hx)
                have Hb2c := Lib.hid (Hb2.out c hltc)
                have Hbit := Lib.hid (show s.may ⟨t, a, b⟩ c = true → t.testBit c = false from fun h => by
                  unfold Sh.may at h
                  rw [Bool.and_eq_true, Bool.not_eq_true'] at h
                  exact h.1)
                clear Hc
                generalize s.may ⟨t, a, b⟩ c = mb at *
                have x0 : wr.cell? ⟨w.heap.size, 0, none⟩ = _ := hSr.cell (i := 0) rfl
                have x1 : wr.cell? ⟨w.heap.size, 1, none⟩ = _ := hSr.cell (i := 1) rfl
                have x2 : wr.cell? ⟨w.heap.size, 2, none⟩ = _ := hSr.cell (i := 2) rfl
                have x3 : wr.cell? ⟨w.heap.size, 3, none⟩ = _ := hSr.cell (i := 3) rfl
                have x4 : wr.cell? ⟨w.heap.size, 4, none⟩ = _ := hSr.cell (i := 4) rfl
                have x5 : wr.cell? ⟨w.heap.size, 5, none⟩ = _ := hSr.cell (i := 5) rfl
                have x6 : wr.cell? ⟨w.heap.size, 6, none⟩ = _ := hSr.cell (i := 6) rfl
                go_wp2_with fail
                refine CM.out.mono ?_; rintro e w7 ⟨rfl, hb7⟩
                have hbr7 := hbr.trans (hb7.mono hbr.size)
                have hS7 := HSr.out.ext hb7
                have hm7 := Hm6.out.ext hb7
                clear hSr hmr Hm6 HSr CM hbr hb7 x0 x1 x2 x3 x4 x5 x6
                cases mb
                · have HN := Lib.hid (Hcn.out (fun h => by cases h))
                  clear hS7 hm7
                  go_wp2
                  go_roundw
                  case rel => exact ⟨c + 1, by go_num, by omega, HN, hbr7⟩
                  case measure => simp [intOf]; omega
                have Hcn2 := Lib.hid (fun h => Hcn.out (fun _ => h))
                have Hb3 := Lib.hid (Hb2c.out rfl)
                have hbit := Hbit.out rfl
                clear Hcn Hb2c Hbit
                have CR := Lib.hid (RChange_any s p a c w7 hm7 Hok.out hlta hltc)
                have hcc := Hok.out.chC a c
                have hor := add_or t (by omega) c (by omega) hbit
                have huw : t ||| 2 ^ c < s.whole + 1 := by rw [Hws.out]; exact or_lt (by rw [← Hws.out]; exact hlt) hltc
                have hpc := pow64 (show c < 16 by omega)
                obtain ⟨hcm2, hcm64⟩ := mul64 (show c ≤ 8 by omega) n8 (x := c * s.acts.length) rfl
                have hidc := tab_bd hltc hlta
                rw [Hnn.out] at hidc
                have htU : t ||| 2 ^ c < T.length := by rw [Hm.out]; omega
                have hbd2 : 0 ≤ s.atT T ⟨t ||| 2 ^ c, c, a⟩ ∧ s.atT T ⟨t ||| 2 ^ c, c, a⟩ ≤ 1000000 := by
                  have hl := (Hall.out _ htU).1
                  have hi : c * s.acts.length + a < T[t ||| 2 ^ c].length := by rw [hl, ← Hnn.out]; exact tab_bd hltc hlta
                  rw [atT_eq (x := ⟨t ||| 2 ^ c, c, a⟩) htU hi]
                  exact (Hall.out _ htU).2 _ hi
                have Htab := Lib.hid (fun W (hW : Below W0.heap.size W0 W) => (hT0.ext hW).at (s := s) Hnn.out Hall2.out htU hltc hlta)
                change Hid (v ≤ s.chC a c + s.atT T ⟨t ||| 2 ^ c, c, a⟩ → _) at Hcn2
                change Hid (v > s.chC a c + s.atT T ⟨t ||| 2 ^ c, c, a⟩ → _) at Hb3
                generalize s.atT T ⟨t ||| 2 ^ c, c, a⟩ = v2 at *
                generalize s.chC a c = cc at *
                generalize s.chM a c = cm at *
                generalize c * s.acts.length = cn at *
                generalize hu : t ||| 2 ^ c = u at *
                generalize 2 ^ c = Pc at *
                have hu1 : (t : Int) + (Pc : Int) = (u : Int) := by omega
                obtain ⟨iy, hiy⟩ : ∃ iy : Nat, iy = cn + a := ⟨_, rfl⟩
                rw [← hiy] at hidc Htab
                have hsum2 : (cn : Int) + (a : Int) = (iy : Int) := by omega
                have Hu := Lib.hid hu
                have Hor := Lib.hid hor
                have Hiy := Lib.hid hiy
                clear hu hor hiy hbit
                have hu0 : (0 : Int) ≤ (u : Int) := by omega
                have hum : (u : Int) < (m : Int) := by have := Hmw.out; omega
                have hiy0 : (0 : Int) ≤ (iy : Int) := by omega
                have hiy1 : (iy : Int) < (nn : Int) := by omega
                go_upto_region 32 with fail
                have x0 : w7.cell? ⟨w.heap.size, 0, none⟩ = _ := hS7.cell (i := 0) rfl
                have x1 : w7.cell? ⟨w.heap.size, 1, none⟩ = _ := hS7.cell (i := 1) rfl
                have x2 : w7.cell? ⟨w.heap.size, 2, none⟩ = _ := hS7.cell (i := 2) rfl
                have x3 : w7.cell? ⟨w.heap.size, 3, none⟩ = _ := hS7.cell (i := 3) rfl
                have x4 : w7.cell? ⟨w.heap.size, 4, none⟩ = _ := hS7.cell (i := 4) rfl
                have x5 : w7.cell? ⟨w.heap.size, 5, none⟩ = _ := hS7.cell (i := 5) rfl
                have x6 : w7.cell? ⟨w.heap.size, 6, none⟩ = _ := hS7.cell (i := 6) rfl
                go_wp2_with fail
                refine CR.out.mono ?_; rintro e w8 ⟨rfl, hb8⟩
                have hbr8 := hbr7.trans (hb8.mono hbr7.size)
                clear hS7 hm7 CR hbr7 hb8 x0 x1 x2 x3 x4 x5 x6
                go_upto_region 33 with fail
                refine Dr.wp_region_plan 29 [] (.q [0, 1, 2, 3, 4, 5, 6, 7, 8, 9, 10, 11, 12, 13] (.q [14, 15, 16, 17, 18, 19, 20, 21, 22, 23, 24, 25, 26, 27, 28] .done)) (by kernel_rfl) (by kernel_rfl) ?_
                have hbr9 := hbr8.drew
                clear hbr8
                generalize World.drew _ = W9 at *
                obtain ⟨d0, f0, d1, f1, g1, hA1, r0, r1⟩ := (hT0.ext hbr9).at (s := s) (a := a) (b := b) Hnn.out Hall2.out htT hlta hltb
                obtain ⟨e0, f2, d2, f3, g2, hA2, r2, r3⟩ := Htab.out W9 hbr9
                cases hA1
                cases hA2
                have hanb : a * s.acts.length + b = ix := by rw [Hix.out, Han.out]
                rw [hanb, Hv.out] at r1
                have q0 := Dr.cell0 r0
                have q1 := Dr.cell0 r1
                have q2 := Dr.cell0 r2
                have q3 := Dr.cell0 r3
                clear hanb r0 r1 r2 r3
                refine Dr.plan_q (l := [_, _, _, _, _, _, _, _, _, _, _, _, _, _]) rfl (fun K hK => ?_)
                iterate 14 (go_big_quiet_step (fail))
                refine wpQuiet_nil (hK _ ?_); clear hK K
                refine Dr.plan_q (l := [_, _, _, _, _, _, _, _, _, _, _, _, _, _, _]) rfl (fun K hK => ?_)
                iterate 15 (go_big_quiet_step (fail))
                refine wpQuiet_nil (hK _ ?_); clear hK K
                refine Dr.plan_end rfl ?_
                clear q0 q1 q2 q3
                by_cases hvv : v > cc + v2
                · have HF := Lib.hid (Hb3.out hvv)
                  go_wp2
                  go_ret
                  exact ⟨ret_congr (bool_congr HF.out.symm), hb0.trans (hbr9.mono hb0.size)⟩
                · have HN := Lib.hid (Hcn2.out (by omega))
                  go_wp2
                  go_roundw
                  case rel => exact ⟨c + 1, by go_num, by omega, HN, hbr9⟩
                  case measure => simp [intOf]; omega
end Go.Proofs.YtcnidhcdkbfpcaaGreat
