/- Walk: lanes. (Printed by mk_lhpe.py.) -/
import Derived.Test.YtbpmfaibcibleaaLhpD
import Derived.Test.YtbpmfaibcibleaaSorX
namespace Go.Wg
open Go.RowKit Go.Bs
/-- rows that lie apart from the row of their headers -/
structure LnJ (w : World) (v : Value) (rs : List RwV) : Prop where
  row : ∀ x ∈ rs, Cells w x.A 1 Go.Bs.encI x.r
  cap : ∀ x ∈ rs, x.r.length ≤ x.c
  out : ∀ x ∈ rs, ∀ b, x.A.map (·.block) = some b → v.ownBlock ≠ some b ∧ b < w.heap.size
theorem LnJ.nil (w : World) (v : Value) : LnJ w v [] := ⟨by simp, by simp, by simp⟩
theorem LnJ.ext {w w' : World} {v : Value} {rs : List RwV} (h : LnJ w v rs) (hb : Below w.heap.size w w') : LnJ w' v rs := ⟨fun x hx => (h.row x hx).ext hb, h.cap, fun x hx b e => ⟨(h.out x hx b e).1, Nat.lt_of_lt_of_le (h.out x hx b e).2 hb.size⟩⟩
theorem LnJ.add {w : World} {v : Value} {rs : List RwV} {x : RwV} (h : LnJ w v rs) (h1 : Cells w x.A 1 Go.Bs.encI x.r) (h2 : x.r.length ≤ x.c) (h3 : ∀ b, x.A.map (·.block) = some b → v.ownBlock ≠ some b ∧ b < w.heap.size) : LnJ w v (rs ++ [x]) := by
  refine ⟨fun y hy => ?_, fun y hy => ?_, fun y hy => ?_⟩ <;> rcases List.mem_append.1 hy with g | g
  · exact h.row y g
  · rw [List.mem_singleton.1 g]; exact h1
  · exact h.cap y g
  · rw [List.mem_singleton.1 g]; exact h2
  · exact h.out y g
  · rw [List.mem_singleton.1 g]; exact h3
theorem LnJ.grown {w w' : World} {v : Value} {rs : List RwV} {g n c : Nat} (h : LnJ w v rs) (hg : w.grownBy w' v.ownBlock) (hat : v.ownBlock = some g ∨ g = w.heap.size) : LnJ w' (.slice (some ⟨g, 0, none⟩) n c) rs := by
  have hb : Dr.Bel v.ownBlock.toList w w' := ⟨hg.os, hg.tape, hg.output, hg.size, fun k hk hm => hg.block k hk (fun e => hm (by simp; exact e.symm))⟩
  refine ⟨fun x hx => Dr.cells_bel (h.row x hx) hb (fun b e => by have := (h.out x hx b e).1; simpa using this), h.cap, fun x hx b e => ?_⟩
  obtain ⟨h1, h2⟩ := h.out x hx b e
  refine ⟨?_, Nat.lt_of_lt_of_le h2 hb.size⟩
  show some g ≠ some b
  rcases hat with e2 | e2
  · rw [← e2]; exact h1
  · intro e3
    have := Option.some.inj e3
    omega
end Go.Wg
namespace Go.Proofs.Ytbpmfaibcibleaa
open Go.RowKit Go.Bs Go.Wg Go.Pl Go.Sort
theorem infoL35 : (Try.prog.info? 35).map (fun i => (i.zero, i.size, i.bytes)) = some (some (.slice none 0 0), 1, 24) := by kernel_rfl
theorem etL41 : ElemT Try.prog 41 35 1 24 := ElemT.mk Try.underlying41 infoL35 rfl
set_option maxRecDepth 100000 in
set_option maxHeartbeats 2000000 in
theorem lanes_any (A : Option Addr) (n c : Nat) (rs : List RwV) (w : World) (hn : rs.length = n) (hm : n ≤ 1000000) (hM : RwM w A rs) (hl : ∀ x ∈ rs, x.r.length ≤ 1000000000) :
    Calls Try.prog 36 #[.slice A n c] w fun e w' => ∃ A2 c2 rs2, e = .returned (.slice A2 n c2) ∧ rows rs2 = rows rs ∧ RwM w' A2 rs2 ∧ Below w.heap.size w w' := by
  have Hn := Lib.hid hn
  have Hl := Lib.hid hl
  clear hn hl
  go_enter Try.func36, Try.ntmps36
  go_wp2
  go_loopw [3, 4] (fun v t wr => ∃ (k : Nat) (r2 : List RwV), t = .int .i64 k ∧ k ≤ n ∧ r2.length = k ∧ rows r2 = (rows rs).take k ∧ OwnL wr w.heap.size 35 1 RwV.enc v r2 ∧ LnJ wr v r2 ∧ Below w.heap.size w wr) (fun _ t _ => n - (intOf t).toNat)
  case atStart => exact ⟨0, [], rfl, by omega, rfl, rfl, OwnL.nil, LnJ.nil _ _, Below.refl _ _⟩
  case round =>
    obtain ⟨k, r2, rfl, hk, hk2, hrows, ho, hj, hb⟩ := hrel
    by_cases hlt : k < n
    · have hlt' : (k : Int) < n := by omega
      have hkt : k < rs.length := by rw [Hn.out]; exact hlt
      have hkr : k < (rows rs).length := by rw [rows_len]; exact hkt
      obtain ⟨b, off, rfl, -, d0⟩ := (hM.hdr.ext hb).at1 hkt rfl
      have hcell := (hM.row _ (List.getElem_mem hkt)).ext hb
      have hlen := Hl.out _ (List.getElem_mem hkt)
      have hg : (rows rs)[k] = rs[k].r := by simp [rows]
      have Hts := Lib.hid (show (rows rs).take (k + 1) = (rows rs).take k ++ [rs[k].r] by rw [List.take_succ_eq_append_getElem hkr, hg])
      have Hro := Lib.hid hrows
      clear hg hrows hkr
      generalize rs[k].A = A1 at *
      generalize rs[k].c = c1 at *
      generalize rs[k].r = q at *
      generalize hql : q.length = m at *
      have Hk2 := Lib.hid hk2
      have Hql := Lib.hid hql
      clear hk2 hql
      go_wp2_with fail
      refine (list_own A1 m c1 q _ Hql.out hlen hcell).mono ?_; rintro e w1 ⟨u, rfl, hu, hx⟩
      obtain ⟨Au, cu, rfl, g1, -, g3⟩ := hu.cells Go.Bs.encI_len
      have hub := hu.block_ge rfl
      have hj1 := hj.ext hx
      have hown : ∀ z, u3.ownBlock = some z → z < wr.heap.size := fun z hz => (ho.lt hz).2
      have hj2 : LnJ w1 u3 (r2 ++ [⟨q, Au, cu⟩]) := hj1.add g3 g1 (fun z hz => ⟨fun e => by have h5 := hown z e; have h6 := (hub z hz).1; omega, (hub z hz).2⟩)
      have ho1 := ho.ext hx
      have hb1 := hb.trans (hx.mono hb.size)
      have nw := Blk.new w1 35 [.slice Au q.length cu]
      have hj3 := hj2.ext (ext_alloc w1 (.cells #[.slice Au q.length cu] 35))
      have hs1 := hb1.size
      clear hj hj1 hj2 ho hb hx hu hub hown hcell d0
      go_wp2_with (at_builtin; refine app1 RwV.enc 41 35 1 24 etL41 (by decide) (by decide) rwv_len rwv_one rfl _ _ rfl w.heap.size _ r2 rfl (ho1.alloc _) w1.heap.size rfl ⟨q, Au, cu⟩ (fun j u hj => nw.cell hj) (by rw [Hk2.out]; omega) (by simp; omega) ?_; intro g' cap' w' hown' hb3 hg3 hat3)
      have hj4 := hj3.grown (n := r2.length + 1) (c := cap') hg3 hat3
      have hb4 := (hb1.alloc hs1 _).trans hb3
      clear hb3 hg3 hat3 hj3 ho1 nw hb1
      go_wp2
      go_roundw
      case rel => exact ⟨k + 1, r2 ++ [⟨q, Au, cu⟩], by go_num, by omega, by simp [Hk2.out], by rw [Hts.out, ← Hro.out]; simp [rows], hown', hj4, hb4⟩
      case measure => simp [intOf]; omega
    · obtain rfl : k = n := by omega
      rw [List.take_of_length_le (by rw [rows_len, Hn.out]; omega)] at hrows
      obtain ⟨A2, c2, rfl, -, -, g3⟩ := ho.cells rwv_len
      rw [hk2]
      go_wp2
      go_ret
      exact ⟨A2, c2, r2, rfl, hrows, ⟨g3, hj.row, hj.cap⟩, hb⟩
end Go.Proofs.Ytbpmfaibcibleaa
