/- Arguments opened to data: tills, ledgers, acts. -/
import Derived.Test.YtnjdlhhgnamigaaGreatPuQ
import Derived.Test.YtnjdlhhgnamigaaGreatTilV
import Derived.Test.YtnjdlhhgnamigaaGreatLedB
namespace Go.Proofs.YtnjdlhhgnamigaaGreat
open Go.ChangeShapes Go.WideShapes Go.ChangeAt Go.RowKit Go.Joins Go.Bs Go.Deep Go.Pu
section
variable {H : Type} {enc : TypeId × Value → H} {w : World} {base : Nat} {spare : Nat → Bool} {held : Bool}
set_option maxRecDepth 100000 in
theorem bag_in {n : Nat} {cs : List Value} {y : DataW H × List MemPlace} (h : DataW.trod enc Tryz.prog w base spare held n 83 cs = some y) : ∃ x : Bag, cs = Bag.enc x := by
  obtain ⟨xs, m, _, _, hlen, hxl, hg⟩ := DataW.trod_struct Tryz.underlying83 h
  have hlen2 : cs.length = 6 := hlen.trans (by kernel_rfl)
  have h3 : Tryz.prog.cellsOf 3 = 1 := by kernel_rfl
  have h4 : Tryz.prog.cellsOf 4 = 1 := by kernel_rfl
  have h5 : Tryz.prog.cellsOf 5 = 1 := by kernel_rfl
  match cs, hlen2 with
  | [c0, c1, c2, c3, c4, c5], _ =>
    match xs, hxl with
    | [y0, y1, y2, y3, y4, y5], _ =>
      have a0 : DataW.trod enc Tryz.prog w base spare held m 3 (([c0, c1, c2, c3, c4, c5].drop 0).take (Tryz.prog.cellsOf 3)) = some y0 := hg 0 _ rfl
      have a1 : DataW.trod enc Tryz.prog w base spare held m 3 (([c0, c1, c2, c3, c4, c5].drop 1).take (Tryz.prog.cellsOf 3)) = some y1 := hg 1 _ rfl
      have a2 : DataW.trod enc Tryz.prog w base spare held m 3 (([c0, c1, c2, c3, c4, c5].drop 2).take (Tryz.prog.cellsOf 3)) = some y2 := hg 2 _ rfl
      have a3 : DataW.trod enc Tryz.prog w base spare held m 3 (([c0, c1, c2, c3, c4, c5].drop 3).take (Tryz.prog.cellsOf 3)) = some y3 := hg 3 _ rfl
      have a4 : DataW.trod enc Tryz.prog w base spare held m 3 (([c0, c1, c2, c3, c4, c5].drop 4).take (Tryz.prog.cellsOf 3)) = some y4 := hg 4 _ rfl
      have a5 : DataW.trod enc Tryz.prog w base spare held m 4 (([c0, c1, c2, c3, c4, c5].drop 5).take (Tryz.prog.cellsOf 4)) = some y5 := hg 5 _ rfl
      rw [h3] at a0
      obtain ⟨k0, e0⟩ := int1_in Tryz.underlying3 a0
      rw [h3] at a1
      obtain ⟨k1, e1⟩ := int1_in Tryz.underlying3 a1
      rw [h3] at a2
      obtain ⟨k2, e2⟩ := int1_in Tryz.underlying3 a2
      rw [h3] at a3
      obtain ⟨k3, e3⟩ := int1_in Tryz.underlying3 a3
      rw [h3] at a4
      obtain ⟨k4, e4⟩ := int1_in Tryz.underlying3 a4
      rw [h4] at a5
      obtain ⟨k5, e5, _⟩ := DataW.trod_bool Tryz.underlying4 a5
      simp at e0 e1 e2 e3 e4 e5
      subst e0
      subst e1
      subst e2
      subst e3
      subst e4
      subst e5
      exact ⟨⟨k0, k1, k2, k3, k4, k5⟩, rfl⟩
set_option maxRecDepth 100000 in
theorem dif_in {n : Nat} {cs : List Value} {y : DataW H × List MemPlace} (h : DataW.trod enc Tryz.prog w base spare held n 84 cs = some y) : ∃ x : Dif, cs = Dif.enc x := by
  obtain ⟨xs, m, _, _, hlen, hxl, hg⟩ := DataW.trod_struct Tryz.underlying84 h
  have hlen2 : cs.length = 3 := hlen.trans (by kernel_rfl)
  have h3 : Tryz.prog.cellsOf 3 = 1 := by kernel_rfl
  have h4 : Tryz.prog.cellsOf 4 = 1 := by kernel_rfl
  have h5 : Tryz.prog.cellsOf 5 = 1 := by kernel_rfl
  match cs, hlen2 with
  | [c0, c1, c2], _ =>
    match xs, hxl with
    | [y0, y1, y2], _ =>
      have a0 : DataW.trod enc Tryz.prog w base spare held m 3 (([c0, c1, c2].drop 0).take (Tryz.prog.cellsOf 3)) = some y0 := hg 0 _ rfl
      have a1 : DataW.trod enc Tryz.prog w base spare held m 3 (([c0, c1, c2].drop 1).take (Tryz.prog.cellsOf 3)) = some y1 := hg 1 _ rfl
      have a2 : DataW.trod enc Tryz.prog w base spare held m 4 (([c0, c1, c2].drop 2).take (Tryz.prog.cellsOf 4)) = some y2 := hg 2 _ rfl
      rw [h3] at a0
      obtain ⟨k0, e0⟩ := int1_in Tryz.underlying3 a0
      rw [h3] at a1
      obtain ⟨k1, e1⟩ := int1_in Tryz.underlying3 a1
      rw [h4] at a2
      obtain ⟨k2, e2, _⟩ := DataW.trod_bool Tryz.underlying4 a2
      simp at e0 e1 e2
      subst e0
      subst e1
      subst e2
      exact ⟨⟨k0, k1, k2⟩, rfl⟩
set_option maxRecDepth 100000 in
theorem act_in {n : Nat} {cs : List Value} {y : DataW H × List MemPlace} (h : DataW.trod enc Tryz.prog w base spare held n 48 cs = some y) : ∃ x : {x : Go.Pu.Act // 0 ≤ x.kind ∧ x.kind ≤ 255}, cs = Go.Pu.Act.enc x.1 := by
  obtain ⟨xs, m, _, _, hlen, hxl, hg⟩ := DataW.trod_struct Tryz.underlying48 h
  have hlen2 : cs.length = 6 := hlen.trans (by kernel_rfl)
  have h3 : Tryz.prog.cellsOf 3 = 1 := by kernel_rfl
  have h4 : Tryz.prog.cellsOf 4 = 1 := by kernel_rfl
  have h5 : Tryz.prog.cellsOf 5 = 1 := by kernel_rfl
  match cs, hlen2 with
  | [c0, c1, c2, c3, c4, c5], _ =>
    match xs, hxl with
    | [y0, y1, y2, y3, y4, y5], _ =>
      have a0 : DataW.trod enc Tryz.prog w base spare held m 5 (([c0, c1, c2, c3, c4, c5].drop 0).take (Tryz.prog.cellsOf 5)) = some y0 := hg 0 _ rfl
      have a1 : DataW.trod enc Tryz.prog w base spare held m 3 (([c0, c1, c2, c3, c4, c5].drop 1).take (Tryz.prog.cellsOf 3)) = some y1 := hg 1 _ rfl
      have a2 : DataW.trod enc Tryz.prog w base spare held m 3 (([c0, c1, c2, c3, c4, c5].drop 2).take (Tryz.prog.cellsOf 3)) = some y2 := hg 2 _ rfl
      have a3 : DataW.trod enc Tryz.prog w base spare held m 3 (([c0, c1, c2, c3, c4, c5].drop 3).take (Tryz.prog.cellsOf 3)) = some y3 := hg 3 _ rfl
      have a4 : DataW.trod enc Tryz.prog w base spare held m 3 (([c0, c1, c2, c3, c4, c5].drop 4).take (Tryz.prog.cellsOf 3)) = some y4 := hg 4 _ rfl
      have a5 : DataW.trod enc Tryz.prog w base spare held m 3 (([c0, c1, c2, c3, c4, c5].drop 5).take (Tryz.prog.cellsOf 3)) = some y5 := hg 5 _ rfl
      rw [h5] at a0
      obtain ⟨k0, e0⟩ := u8_in a0
      rw [h3] at a1
      obtain ⟨k1, e1⟩ := int1_in Tryz.underlying3 a1
      rw [h3] at a2
      obtain ⟨k2, e2⟩ := int1_in Tryz.underlying3 a2
      rw [h3] at a3
      obtain ⟨k3, e3⟩ := int1_in Tryz.underlying3 a3
      rw [h3] at a4
      obtain ⟨k4, e4⟩ := int1_in Tryz.underlying3 a4
      rw [h3] at a5
      obtain ⟨k5, e5⟩ := int1_in Tryz.underlying3 a5
      simp at e0 e1 e2 e3 e4 e5
      subst e0
      subst e1
      subst e2
      subst e3
      subst e4
      subst e5
      exact ⟨⟨⟨k0.1, k1, k2, k3, k4, k5⟩, k0.2⟩, rfl⟩
end
section
variable {H : Type} {enc : TypeId × Value → H} {w : World} {base : Nat} {spare : Nat → Bool} {held : Bool} {b0 : Nat} {v : Value} {d : DataW H} {p : List MemPlace}
set_option maxRecDepth 100000 in
theorem acts_in (hv : Value.okWide Tryz.prog w .any b0 27 v) (h : DataW.Trod enc Tryz.prog w base spare held 27 v d p) :
    ∃ A n c l, v = .slice A n c ∧ l.length = n ∧ n ≤ c ∧ n ≤ 9223372036854775807 ∧ (∀ x ∈ l, (0 : Int) ≤ x.kind ∧ x.kind ≤ 255) ∧ Cells w A 6 Go.Pu.Act.enc l := by
  obtain ⟨A, n, c, rfl⟩ := okWide_slice Tryz.underlying27 hv
  obtain ⟨fuel, hf⟩ := h
  haveI : Inhabited {x : Go.Pu.Act // 0 ≤ x.kind ∧ x.kind ≤ 255} := ⟨⟨⟨0, 0, 0, 0, 0, 0⟩, by simp⟩⟩
  obtain ⟨A', n', c', l, e, hl, hlc, hcm, hc⟩ := rows_in (sz := 6) Tryz.underlying27 (by kernel_rfl) (by decide) (fun x : {x : Go.Pu.Act // 0 ≤ x.kind ∧ x.kind ≤ 255} => Go.Pu.Act.enc x.1) (fun _ _ _ h => act_in h) hf
  cases e
  refine ⟨A, n, c, l.map (·.1), rfl, by simpa using hl, hlc, by unfold maxLen at hcm; omega, fun x hx => ?_, fun i x hx => ?_⟩
  · obtain ⟨y, _, rfl⟩ := List.mem_map.1 hx
    exact y.2
  · rw [List.getElem?_map] at hx
    obtain ⟨y, hy, rfl⟩ := Option.map_eq_some_iff.1 hx
    exact hc i y hy
set_option maxRecDepth 100000 in
theorem led_in (hv : Value.okWide Tryz.prog w .any b0 26 v) (h : DataW.Trod enc Tryz.prog w base spare held 26 v d p) :
    ∃ (l : Led) (A B D : Option Addr) (n c m d q e : Nat), v = ledV A n c B m d l.office l.bank l.begun l.inn l.out D q e ∧ l.windows.length = n ∧ l.bags.length = m ∧ l.diffs.length = q ∧ n ≤ 9223372036854775807 ∧ m ≤ 9223372036854775807 ∧ q ≤ 9223372036854775807 ∧
      Cells w A 1 encI l.windows ∧ Cells w B 6 Bag.enc l.bags ∧ Cells w D 3 Dif.enc l.diffs := by
  obtain ⟨cs, rfl, hsz⟩ := okWide_struct Tryz.underlying26 hv
  obtain ⟨fuel, hf⟩ := h
  obtain ⟨xs, m, _, _, hlen, hxl, hg⟩ := DataW.trod_struct Tryz.underlying26 hf
  have hlen2 : cs.toList.length = 8 := by rw [Array.length_toList]; exact hsz.trans (by kernel_rfl)
  have h3 : Tryz.prog.cellsOf 3 = 1 := by kernel_rfl
  have h27 : Tryz.prog.cellsOf 22 = 1 := by kernel_rfl
  have h72 : Tryz.prog.cellsOf 23 = 1 := by kernel_rfl
  have h73 : Tryz.prog.cellsOf 24 = 1 := by kernel_rfl
  obtain ⟨cl⟩ := cs
  simp only [Value.cells] at hg
  match cl, hlen2 with
  | [c0, c1, c2, c3, c4, c5, c6, c7], _ =>
    match xs, hxl with
    | [y0, y1, y2, y3, y4, y5, y6, y7], _ =>
      have a0 : DataW.trod enc Tryz.prog w base spare held m 22 (([c0, c1, c2, c3, c4, c5, c6, c7].drop 0).take (Tryz.prog.cellsOf 22)) = some y0 := hg 0 _ rfl
      have a1 : DataW.trod enc Tryz.prog w base spare held m 23 (([c0, c1, c2, c3, c4, c5, c6, c7].drop 1).take (Tryz.prog.cellsOf 23)) = some y1 := hg 1 _ rfl
      have a2 : DataW.trod enc Tryz.prog w base spare held m 3 (([c0, c1, c2, c3, c4, c5, c6, c7].drop 2).take (Tryz.prog.cellsOf 3)) = some y2 := hg 2 _ rfl
      have a3 : DataW.trod enc Tryz.prog w base spare held m 3 (([c0, c1, c2, c3, c4, c5, c6, c7].drop 3).take (Tryz.prog.cellsOf 3)) = some y3 := hg 3 _ rfl
      have a4 : DataW.trod enc Tryz.prog w base spare held m 3 (([c0, c1, c2, c3, c4, c5, c6, c7].drop 4).take (Tryz.prog.cellsOf 3)) = some y4 := hg 4 _ rfl
      have a5 : DataW.trod enc Tryz.prog w base spare held m 3 (([c0, c1, c2, c3, c4, c5, c6, c7].drop 5).take (Tryz.prog.cellsOf 3)) = some y5 := hg 5 _ rfl
      have a6 : DataW.trod enc Tryz.prog w base spare held m 3 (([c0, c1, c2, c3, c4, c5, c6, c7].drop 6).take (Tryz.prog.cellsOf 3)) = some y6 := hg 6 _ rfl
      have a7 : DataW.trod enc Tryz.prog w base spare held m 24 (([c0, c1, c2, c3, c4, c5, c6, c7].drop 7).take (Tryz.prog.cellsOf 24)) = some y7 := hg 7 _ rfl
      rw [h27] at a0
      rw [h72] at a1
      rw [h3] at a2 a3 a4 a5 a6
      rw [h73] at a7
      obtain ⟨k2, e2⟩ := int1_in Tryz.underlying3 a2
      obtain ⟨k3, e3⟩ := int1_in Tryz.underlying3 a3
      obtain ⟨k4, e4⟩ := int1_in Tryz.underlying3 a4
      obtain ⟨k5, e5⟩ := int1_in Tryz.underlying3 a5
      obtain ⟨k6, e6⟩ := int1_in Tryz.underlying3 a6
      simp at e2 e3 e4 e5 e6
      subst e2 e3 e4 e5 e6
      have a0 : DataW.trod enc Tryz.prog w base spare held m 22 [c0] = some y0 := a0
      have a1 : DataW.trod enc Tryz.prog w base spare held m 23 [c1] = some y1 := a1
      have a7 : DataW.trod enc Tryz.prog w base spare held m 24 [c7] = some y7 := a7
      obtain ⟨A, n, c, l1, rfl, hl1, hq1, hm1, hc1⟩ := ints_in a0
      obtain ⟨B, m2, d2, l2, rfl, hl2, hq2, hm2, hc2⟩ := rows_in (sz := 6) Tryz.underlying23 (by kernel_rfl) (by decide) Bag.enc (fun _ _ _ h => bag_in h) a1
      obtain ⟨D, q, e, l3, rfl, hl3, hq3, hm3, hc3⟩ := rows_in (sz := 3) Tryz.underlying24 (by kernel_rfl) (by decide) Dif.enc (fun _ _ _ h => dif_in h) a7
      unfold maxLen at hm1 hm2 hm3
      exact ⟨⟨l1, l2, k2, k3, k4, k5, k6, l3⟩, A, B, D, n, c, m2, d2, q, e, rfl, hl1, hl2, hl3, by omega, by omega, by omega, hc1, hc2, hc3⟩
end
end Go.Proofs.YtnjdlhhgnamigaaGreat
