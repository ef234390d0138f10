/- Walk: an act of a ledger, with panic, defer and recover. -/
import Derived.Defers
import Derived.Recover
import Derived.Test.YtnjdlhhgnamigaaGreatLedL
/- Walk: what is done by an act: the deferred closure. -/
namespace Go.Proofs.YtnjdlhhgnamigaaGreat
open Go.RowKit Go.Bs Go.Pu Go.Pl Go.Sort

theorem catch_idle (p q : Addr) (w : World) :
    CallsD Tryz.prog 56 #[.pointer (some p), .pointer (some q)] .returning w fun e u' w' => e = .returned (.tuple #[]) ∧ u' = .returning ∧ w' = w := by
  refine callsD_of_wpS Tryz.func56 rfl fun c₀ cs hu => ?_
  apply wpS_seq
  apply wpS_region
  simp [wpOpsS, go_sem, recoverD, hu, Tryz.ntmps56, Exit.thenS]
  refine wpS_of_wp ?_
  go_wp2
  cases c₀
  simp_all [bodyPostS, results, Tryz.results56]

set_option maxRecDepth 100000 in
theorem catch_refused (R E : Nat) (e x : Int) (cs0 : List Value) (older : List PanicEntry) (w : World) (hR : Blk w R 34 cs0) (hl : cs0.length = 8) (hE : Blk w E 36 [.int .i64 x]) (hne : R ≠ E) :
    CallsD Tryz.prog 56 #[.pointer (some ⟨R, 0, none⟩), .pointer (some ⟨E, 0, none⟩)] (.panicking ({ v := .iface 114 (.agg #[.int .i64 e]), recovered := false } :: older)) w fun r u' w' =>
      r = .returned (.tuple #[]) ∧ u' = .panicking ({ v := .iface 114 (.agg #[.int .i64 e]), recovered := true } :: older) ∧ Dr.Bel [R, E] w w' ∧ Blk w' R 34 lzC ∧ Blk w' E 36 [.int .i64 e] := by
  refine callsD_of_wpS Tryz.func56 rfl fun c₀ cs hu => ?_
  apply wpS_seq
  apply wpS_region
  simp [wpOpsS, go_sem, recoverD, hu, Tryz.ntmps56, Exit.thenS]
  refine wpS_of_wp ?_
  simp only [Array.replicate_succ, Array.replicate_zero, List.push_toArray, List.append_toArray, List.nil_append, List.cons_append, List.setIfInBounds_toArray, List.set_cons_succ, List.set_cons_zero]
  have ha : ∀ w, (Instr.typeAssert (.iface 114 (.agg #[.int .i64 e])) 20 114 true).run Tryz.prog w = .ok (.tuple #[.agg #[.int .i64 e], .bool true]) w := fun _ => by kernel_rfl
  go_upto_region 7 with fail
  have hU := Blk.new w 114 [.int .i64 e]
  have hR1 := hR.alloc (.cells #[.int .i64 e] 114)
  have hE1 := hE.alloc (.cells #[.int .i64 e] 114)
  have hb1 : Dr.Bel [R, E] w (w.alloc (.cells #[.int .i64 e] 114)) := .of (ext_alloc _ _)
  have hlR := hR.lt
  have hlE := hE.lt
  clear hR hE ha
  change Blk (w.alloc (.cells #[.int .i64 e] 114)) _ _ _ at hU
  generalize w.alloc (.cells #[.int .i64 e] 114) = W1 at *
  generalize w.heap.size = U at *
  refine Dr.wp_region_plan 4 [R] (.q [0, 1, 2] (.e1 3 .done)) (by kernel_rfl) (by kernel_rfl) ?_
  have hRd := hR1.drew
  have hEd := hE1.drew
  have hUd := hU.drew
  have hbd : Dr.Bel [R, E] w W1.drew := hb1.trans (.of (ext_drew W1))
  clear hR1 hE1 hU hb1
  generalize W1.drew = W at *
  have q0 := Dr.cls_cell (M := [R]) (hUd.cell (i := 0) rfl) (by simp; omega)
  refine Dr.plan_q (l := [_, _, _]) rfl (fun K hK => ?_)
  iterate 3 (go_big_quiet_step (fail))
  refine wpQuiet_nil (hK _ ?_); clear hK K
  clear q0
  match cs0, hl with
  | [v0, v1, v2, v3, v4, v5, v6, v7], _ =>
    have y0 : W.cell? ⟨R, 0, none⟩ = _ := hRd.cell (i := 0) rfl
    have y1 : W.cell? ⟨R, 1, none⟩ = _ := hRd.cell (i := 1) rfl
    have y2 : W.cell? ⟨R, 2, none⟩ = _ := hRd.cell (i := 2) rfl
    have y3 : W.cell? ⟨R, 3, none⟩ = _ := hRd.cell (i := 3) rfl
    have y4 : W.cell? ⟨R, 4, none⟩ = _ := hRd.cell (i := 4) rfl
    have y5 : W.cell? ⟨R, 5, none⟩ = _ := hRd.cell (i := 5) rfl
    have y6 : W.cell? ⟨R, 6, none⟩ = _ := hRd.cell (i := 6) rfl
    have y7 : W.cell? ⟨R, 7, none⟩ = _ := hRd.cell (i := 7) rfl
    have f0 := hRd.free 0
    have f1 := hRd.free 1
    have f2 := hRd.free 2
    have f3 := hRd.free 3
    have f4 := hRd.free 4
    have f5 := hRd.free 5
    have f6 := hRd.free 6
    have f7 := hRd.free 7
    refine Dr.plan_e rfl (by rfl) (fun K hK => ?_)
    go_wp2_with fail
    generalize hWf : World.setCell _ _ _ = Wf
    have hRf := hRd.put_eq lzC hWf rfl
    have hbf : Dr.Bel [R] W Wf := bel_put_eq lzC hWf
    clear hWf y0 y1 y2 y3 y4 y5 y6 y7 f0 f1 f2 f3 f4 f5 f6 f7
    refine hK _ _ hbf ?_; clear hK K
    have hEf := hbf.blk hEd (by simp; omega)
    have hb2 : Dr.Bel [R, E] w Wf := hbd.trans ⟨hbf.os, hbf.tape, hbf.output, hbf.size, fun k hk hm => hbf.block k hk (by simp at hm ⊢; omega)⟩
    have z0 : Wf.cell? ⟨E, 0, none⟩ = _ := hEf.cell (i := 0) rfl
    have g0 := hEf.free 0
    clear hRd hEd hUd hbd hbf
    refine Dr.plan_done (tl := [_]) rfl ?_
    go_wp2
    have hR9 := hRf.other (p := ⟨E, 0, none⟩) (by simp; omega) (.int .i64 e)
    have hE9 := hEf.set 0 (.int .i64 e)
    have hb9 := hb2.put (p := ⟨E, 0, none⟩) (by simp) (.int .i64 e)
    cases c₀
    refine ⟨rfl, _, rfl, _, by simp [results, Tryz.results56, go_sem], rfl, rfl, hb9, hR9, hE9⟩
end Go.Proofs.YtnjdlhhgnamigaaGreat

/- Walk: a ledger behind an act. -/
namespace Go.Proofs.YtnjdlhhgnamigaaGreat
open Go.RowKit Go.Bs Go.Pu Go.Pl Go.Sort

theorem kind_ok (k : Int) (S : Nat) (cs : List Value) (w : World) (hS : Blk w S 51 cs) (hc : cs[0]? = some (.int .u8 k)) : PredB Tryz.prog 55 #[.pointer (some ⟨S, 0, none⟩)] Ent.val (fun x => x.1 == k) w entL := by
  intro W x hx hb
  have hS' := hS.ext hb
  have s0 : W.cell? ⟨S, 0, none⟩ = _ := hS'.cell (i := 0) hc
  have hlt := hS'.lt
  show Calls Tryz.prog 55 #[Ent.val x, .pointer (some ⟨S, 0, none⟩)] W fun e w' => e = .returned (.bool (x.1 == k)) ∧ Below W.heap.size W w'
  obtain ⟨x0, x1⟩ := x
  unfold Ent.val
  clear hx hb hS hS'
  go_enter Tryz.func55, Tryz.ntmps55
  go_wp2
  go_ret
  exact ⟨rfl, ext_alloc _ _⟩

theorem idx_hit (k : Int) (h : 1 ≤ k ∧ k ≤ 8) : idxF (fun x : Int × Nat => x.1 == k) entL = k - 1 := by
  obtain ⟨h1, h2⟩ := h
  have : k = 1 ∨ k = 2 ∨ k = 3 ∨ k = 4 ∨ k = 5 ∨ k = 6 ∨ k = 7 ∨ k = 8 := by omega
  rcases this with rfl | rfl | rfl | rfl | rfl | rfl | rfl | rfl <;> decide
theorem idx_miss (k : Int) (h : ¬ (1 ≤ k ∧ k ≤ 8)) : idxF (fun x : Int × Nat => x.1 == k) entL = -1 := by
  refine idxF_miss (fun x hx => ?_)
  simp [entL] at hx
  rcases hx with rfl | rfl | rfl | rfl | rfl | rfl | rfl | rfl <;> simp <;> omega
theorem ent_at (i : Nat) (h : i < 8) : entL[i]'(by simpa [entL] using h) = ((i : Int) + 1, 79 + i) := by
  have : i = 0 ∨ i = 1 ∨ i = 2 ∨ i = 3 ∨ i = 4 ∨ i = 5 ∨ i = 6 ∨ i = 7 := by omega
  rcases this with rfl | rfl | rfl | rfl | rfl | rfl | rfl | rfl <;> rfl
theorem doL_other (l : Led) (a : Pu.Act) (h : ¬ (1 ≤ a.kind ∧ a.kind ≤ 8)) : doL l a = (Led.zero, 1) := by
  unfold doL
  rw [if_neg (by omega), if_neg (by omega), if_neg (by omega), if_neg (by omega), if_neg (by omega), if_neg (by omega), if_neg (by omega), if_neg (by omega)]
theorem err_ite {c : Prop} [Decidable c] {x y : Led × Int} (hx : x.2 = 0 ∨ x.1 = Led.zero) (hy : y.2 = 0 ∨ y.1 = Led.zero) : (if c then x else y).2 = 0 ∨ (if c then x else y).1 = Led.zero := by
  by_cases h : c
  · simpa only [if_pos h] using hx
  · simpa only [if_neg h] using hy
theorem doL_err (l : Led) (a : Pu.Act) (h : (doL l a).2 ≠ 0) : (doL l a).1 = Led.zero := by
  have : (doL l a).2 = 0 ∨ (doL l a).1 = Led.zero := by
    unfold doL
    repeat' (apply err_ite)
    all_goals (first | exact .inl rfl | exact .inr rfl)
  exact this.resolve_left h
section
variable {base : Nat} {w : World} {P : Nat} {A : Option Addr} {n c : Nat} {B : Option Addr} {m d : Nat} {D : Option Addr} {q e : Nat} {l : Led} {a : Pu.Act}
theorem op_any (i : Nat) (hi : i < 8) (hk : a.kind = (i : Int) + 1) (h : DeskM base w P A n c B m d D q e l a) (hm : l.mon) (hq : q ≤ 999) : Calls Tryz.prog (79 + i) #[.pointer (some ⟨P, 0, none⟩)] w fun r w' => OpR base w P l a r w' := by
  have : i = 0 ∨ i = 1 ∨ i = 2 ∨ i = 3 ∨ i = 4 ∨ i = 5 ∨ i = 6 ∨ i = 7 := by omega
  rcases this with rfl | rfl | rfl | rfl | rfl | rfl | rfl | rfl
  · exact float_c h (by simpa using hk) hm
  · exact sale_c h (by simpa using hk) hm
  · exact give_c h (by simpa using hk) hm
  · exact pack_c h (by simpa using hk) hm
  · exact touch_c h (by simpa using hk) hm
  · exact open_c h (by simpa using hk) hm hq
  · exact deposit_c h (by simpa using hk) hm
  · exact wage_c h (by simpa using hk) hm
theorem op_ent (i : Nat) (hi : i < 8) : Enters Tryz.prog (79 + i) := by
  have : i = 0 ∨ i = 1 ∨ i = 2 ∨ i = 3 ∨ i = 4 ∨ i = 5 ∨ i = 6 ∨ i = 7 := by omega
  rcases this with rfl | rfl | rfl | rfl | rfl | rfl | rfl | rfl
  · exact enters_of Tryz.func79 (by kernel_rfl) rfl
  · exact enters_of Tryz.func80 (by kernel_rfl) rfl
  · exact enters_of Tryz.func81 (by kernel_rfl) rfl
  · exact enters_of Tryz.func82 (by kernel_rfl) rfl
  · exact enters_of Tryz.func83 (by kernel_rfl) rfl
  · exact enters_of Tryz.func84 (by kernel_rfl) rfl
  · exact enters_of Tryz.func85 (by kernel_rfl) rfl
  · exact enters_of Tryz.func86 (by kernel_rfl) rfl
end

theorem _root_.Go.Bs.OwnL.weak {α : Type} {w : World} {b1 b2 : Nat} {e : TypeId} {sz : Nat} {enc : α → List Value} {v : Value} {l : List α} (h : OwnL w b2 e sz enc v l) (hb : b1 ≤ b2) : OwnL w b1 e sz enc v l := by
  refine ⟨h.1, ?_⟩
  rcases h.2 with h0 | ⟨g, cap, cur, hv, hg, rest⟩
  · exact .inl h0
  · exact .inr ⟨g, cap, cur, hv, Nat.le_trans hb hg, rest⟩
/-- a ledger all of whose memory is newer than a world -/
structure LedF (w w' : World) (l : Led) (A : Option Addr) (n : Nat) (B : Option Addr) (m : Nat) (D : Option Addr) (q : Nat) : Prop where
  m : LedM w' l A n B m D q
  fa : ∀ k, A.map (·.block) = some k → w.heap.size ≤ k ∧ k < w'.heap.size
  fb : ∀ k, B.map (·.block) = some k → w.heap.size ≤ k ∧ k < w'.heap.size
  fd : ∀ k, D.map (·.block) = some k → w.heap.size ≤ k ∧ k < w'.heap.size
def LedFr (w w' : World) (v : Value) (l : Led) : Prop := ∃ A n c B m d D q e, v = ledV A n c B m d l.office l.bank l.begun l.inn l.out D q e ∧ LedF w w' l A n B m D q
theorem lz_fr (w w' : World) : LedFr w w' (.agg #[.slice none 0 0, .slice none 0 0, .int .i64 0, .int .i64 0, .int .i64 0, .int .i64 0, .int .i64 0, .slice none 0 0]) Led.zero :=
  ⟨none, 0, 0, none, 0, 0, none, 0, 0, rfl, ⟨⟨rfl, rfl, rfl, by omega, by omega, by omega, fun i x h => by simp [Led.zero] at h, fun i x h => by simp [Led.zero] at h, fun i x h => by simp [Led.zero] at h⟩, fun k h => by simp at h, fun k h => by simp at h, fun k h => by simp at h⟩⟩
set_option maxRecDepth 100000 in
set_option maxHeartbeats 4000000 in
theorem do_any (l : Led) (a : Pu.Act) (A : Option Addr) (n c : Nat) (B : Option Addr) (m d : Nat) (D : Option Addr) (q e : Nat) (w : World) (hL : LedM w l A n B m D q) (hmon : l.mon) (hq : q ≤ 900) :
    Calls Tryz.prog 29 #[ledV A n c B m d l.office l.bank l.begun l.inn l.out D q e, Act.val a] w fun r w' => ∃ v, r = .returned (.tuple #[v, .int .i64 (doL l a).2]) ∧ LedFr w w' v (doL l a).1 ∧ Below w.heap.size w w' := by
  have hb0 : Below w.heap.size w ((((w.alloc (.cells (ledC A n c B m d l.office l.bank l.begun l.inn l.out D q e).toArray 34)).alloc (.cells (Act.enc a).toArray 51)).alloc (.cells lzC.toArray 34)).alloc (.cells #[.int .i64 0] 36)) := ((((Below.refl _ _).alloc (Nat.le_refl _) _).alloc (by simp) _).alloc (by simp; omega) _).alloc (by simp; omega) _
  have hX := (((Blk.new w 34 (ledC A n c B m d l.office l.bank l.begun l.inn l.out D q e)).alloc (.cells (Act.enc a).toArray 51)).alloc (.cells lzC.toArray 34)).alloc (.cells #[.int .i64 0] 36)
  have hY := ((Blk.new (w.alloc (.cells (ledC A n c B m d l.office l.bank l.begun l.inn l.out D q e).toArray 34)) 51 (Act.enc a)).alloc (.cells lzC.toArray 34)).alloc (.cells #[.int .i64 0] 36)
  have hR := (Blk.new ((w.alloc (.cells (ledC A n c B m d l.office l.bank l.begun l.inn l.out D q e).toArray 34)).alloc (.cells (Act.enc a).toArray 51)) 34 lzC).alloc (.cells #[.int .i64 0] 36)
  have hE := Blk.new (((w.alloc (.cells (ledC A n c B m d l.office l.bank l.begun l.inn l.out D q e).toArray 34)).alloc (.cells (Act.enc a).toArray 51)).alloc (.cells lzC.toArray 34)) 36 [.int .i64 0]
  have hsz : ((((w.alloc (.cells (ledC A n c B m d l.office l.bank l.begun l.inn l.out D q e).toArray 34)).alloc (.cells (Act.enc a).toArray 51)).alloc (.cells lzC.toArray 34)).alloc (.cells #[.int .i64 0] 36)).heap.size = w.heap.size + 4 := by simp
  simp only [World.size_alloc] at hY hR hE
  unfold ledV ledC lzC Act.val Act.enc at *
  have hmf : ∀ (fn : Fn) (first cap : Array Value) (w : World), (Instr.makeFunc fn first cap).run Tryz.prog w = .ok (.func fn first cap) w := fun _ _ _ _ => rfl
  have hL0 := hL.ext hb0
  have Hmon := Lib.hid hmon
  clear hmon hL
  generalize hlo : l.office = lo at *
  generalize hlk : l.bank = lk at *
  generalize hlg : l.begun = lg at *
  generalize hli : l.inn = li at *
  generalize hlt : l.out = lt at *
  have Hl := Lib.hid (And.intro hlo (And.intro hlk (And.intro hlg (And.intro hli hlt))))
  clear hlo hlk hlg hli hlt
  generalize hres : doL l a = res
  have Hres := Lib.hid hres
  clear hres
  go_enter_defers Tryz.func29, Tryz.ntmps29
  go_upto_region 1 with fail
  change Blk ((((w.alloc (.cells #[.slice A n c, .slice B m d, .int .i64 lo, .int .i64 lk, .int .i64 lg, .int .i64 li, .int .i64 lt, .slice D q e] 34)).alloc (.cells #[.int .u8 a.kind, .int .i64 a.window, .int .i64 a.bag, .int .i64 a.sl, .int .i64 a.amount, .int .i64 a.written] 51)).alloc (.cells #[.slice none 0 0, .slice none 0 0, .int .i64 0, .int .i64 0, .int .i64 0, .int .i64 0, .int .i64 0, .slice none 0 0] 34)).alloc (.cells #[.int .i64 0] 36)) _ _ _ at hX
  change Blk ((((w.alloc (.cells #[.slice A n c, .slice B m d, .int .i64 lo, .int .i64 lk, .int .i64 lg, .int .i64 li, .int .i64 lt, .slice D q e] 34)).alloc (.cells #[.int .u8 a.kind, .int .i64 a.window, .int .i64 a.bag, .int .i64 a.sl, .int .i64 a.amount, .int .i64 a.written] 51)).alloc (.cells #[.slice none 0 0, .slice none 0 0, .int .i64 0, .int .i64 0, .int .i64 0, .int .i64 0, .int .i64 0, .slice none 0 0] 34)).alloc (.cells #[.int .i64 0] 36)) _ _ _ at hY
  change Blk ((((w.alloc (.cells #[.slice A n c, .slice B m d, .int .i64 lo, .int .i64 lk, .int .i64 lg, .int .i64 li, .int .i64 lt, .slice D q e] 34)).alloc (.cells #[.int .u8 a.kind, .int .i64 a.window, .int .i64 a.bag, .int .i64 a.sl, .int .i64 a.amount, .int .i64 a.written] 51)).alloc (.cells #[.slice none 0 0, .slice none 0 0, .int .i64 0, .int .i64 0, .int .i64 0, .int .i64 0, .int .i64 0, .slice none 0 0] 34)).alloc (.cells #[.int .i64 0] 36)) _ _ _ at hR
  change Blk ((((w.alloc (.cells #[.slice A n c, .slice B m d, .int .i64 lo, .int .i64 lk, .int .i64 lg, .int .i64 li, .int .i64 lt, .slice D q e] 34)).alloc (.cells #[.int .u8 a.kind, .int .i64 a.window, .int .i64 a.bag, .int .i64 a.sl, .int .i64 a.amount, .int .i64 a.written] 51)).alloc (.cells #[.slice none 0 0, .slice none 0 0, .int .i64 0, .int .i64 0, .int .i64 0, .int .i64 0, .int .i64 0, .slice none 0 0] 34)).alloc (.cells #[.int .i64 0] 36)) _ _ _ at hE
  change Below w.heap.size w ((((w.alloc (.cells #[.slice A n c, .slice B m d, .int .i64 lo, .int .i64 lk, .int .i64 lg, .int .i64 li, .int .i64 lt, .slice D q e] 34)).alloc (.cells #[.int .u8 a.kind, .int .i64 a.window, .int .i64 a.bag, .int .i64 a.sl, .int .i64 a.amount, .int .i64 a.written] 51)).alloc (.cells #[.slice none 0 0, .slice none 0 0, .int .i64 0, .int .i64 0, .int .i64 0, .int .i64 0, .int .i64 0, .slice none 0 0] 34)).alloc (.cells #[.int .i64 0] 36)) at hb0
  change ((((w.alloc (.cells #[.slice A n c, .slice B m d, .int .i64 lo, .int .i64 lk, .int .i64 lg, .int .i64 li, .int .i64 lt, .slice D q e] 34)).alloc (.cells #[.int .u8 a.kind, .int .i64 a.window, .int .i64 a.bag, .int .i64 a.sl, .int .i64 a.amount, .int .i64 a.written] 51)).alloc (.cells #[.slice none 0 0, .slice none 0 0, .int .i64 0, .int .i64 0, .int .i64 0, .int .i64 0, .int .i64 0, .slice none 0 0] 34)).alloc (.cells #[.int .i64 0] 36)).heap.size = _ at hsz
  change LedM ((((w.alloc (.cells #[.slice A n c, .slice B m d, .int .i64 lo, .int .i64 lk, .int .i64 lg, .int .i64 li, .int .i64 lt, .slice D q e] 34)).alloc (.cells #[.int .u8 a.kind, .int .i64 a.window, .int .i64 a.bag, .int .i64 a.sl, .int .i64 a.amount, .int .i64 a.written] 51)).alloc (.cells #[.slice none 0 0, .slice none 0 0, .int .i64 0, .int .i64 0, .int .i64 0, .int .i64 0, .int .i64 0, .slice none 0 0] 34)).alloc (.cells #[.int .i64 0] 36)) l A n B m D q at hL0
  generalize ((((w.alloc (.cells #[.slice A n c, .slice B m d, .int .i64 lo, .int .i64 lk, .int .i64 lg, .int .i64 li, .int .i64 lt, .slice D q e] 34)).alloc (.cells #[.int .u8 a.kind, .int .i64 a.window, .int .i64 a.bag, .int .i64 a.sl, .int .i64 a.amount, .int .i64 a.written] 51)).alloc (.cells #[.slice none 0 0, .slice none 0 0, .int .i64 0, .int .i64 0, .int .i64 0, .int .i64 0, .int .i64 0, .slice none 0 0] 34)).alloc (.cells #[.int .i64 0] 36)) = W0 at *
  go_wp2_with fail
  refine (entries_any W0).mono ?_; rintro r W1 ⟨g0, rfl, hent, -, hb1⟩
  have hbw1 := ext_trans hb0 hb1
  have hX1 := hX.ext hb1
  have hY1 := hY.ext hb1
  have hR1 := hR.ext hb1
  have hE1 := hE.ext hb1
  have hL1 := hL0.ext hb1
  clear hX hY hR hE hL0 hb0 hsz
  have CI := Lib.hid (index_ent 55 #[.pointer (some ⟨w.heap.size + 1, 0, none⟩)] (fun x => x.1 == a.kind) (some ⟨g0, 0, none⟩) 8 8 entL W1 (enters_of Tryz.func55 (by kernel_rfl) rfl) rfl (by omega) hent (kind_ok a.kind (w.heap.size + 1) _ W1 hY1 rfl))
  clear hent hb1
  go_wp2_with fail
  refine CI.out.mono ?_; rintro r W2 ⟨rfl, hb2⟩
  have hbw2 := ext_trans hbw1 hb2
  have hX2 := hX1.ext hb2
  have hY2 := hY1.ext hb2
  have hR2 := hR1.ext hb2
  have hE2 := hE1.ext hb2
  have hL2 := hL1.ext hb2
  clear hX1 hY1 hR1 hE1 hL1 hbw1 hb2 CI
  by_cases hk : 1 ≤ a.kind ∧ a.kind ≤ 8
  case neg =>
    have hr : res = (Led.zero, 1) := by rw [← Hres.out]; exact doL_other l a hk
    subst hr
    rw [idx_miss a.kind hk]
    have e0 : W2.cell? ⟨w.heap.size + 3, 0, none⟩ = _ := hE2.cell (i := 0) rfl
    have g0' := hE2.free 0
    have y0 : W2.cell? ⟨w.heap.size + 2, 0, none⟩ = _ := hR2.cell (i := 0) rfl
    have y1 : W2.cell? ⟨w.heap.size + 2, 1, none⟩ = _ := hR2.cell (i := 1) rfl
    have y2 : W2.cell? ⟨w.heap.size + 2, 2, none⟩ = _ := hR2.cell (i := 2) rfl
    have y3 : W2.cell? ⟨w.heap.size + 2, 3, none⟩ = _ := hR2.cell (i := 3) rfl
    have y4 : W2.cell? ⟨w.heap.size + 2, 4, none⟩ = _ := hR2.cell (i := 4) rfl
    have y5 : W2.cell? ⟨w.heap.size + 2, 5, none⟩ = _ := hR2.cell (i := 5) rfl
    have y6 : W2.cell? ⟨w.heap.size + 2, 6, none⟩ = _ := hR2.cell (i := 6) rfl
    have y7 : W2.cell? ⟨w.heap.size + 2, 7, none⟩ = _ := hR2.cell (i := 7) rfl
    have f0 := hR2.free 0
    have f1 := hR2.free 1
    have f2 := hR2.free 2
    have f3 := hR2.free 3
    have f4 := hR2.free 4
    have f5 := hR2.free 5
    have f6 := hR2.free 6
    have f7 := hR2.free 7
    go_wp2
    generalize hWf : World.setCell _ _ (Value.slice none 0 0) = Wf
    have hRf := hR2.put_eq lzC hWf rfl
    have hbf : Dr.Bel [w.heap.size + 2] W2 Wf := bel_put_eq lzC hWf
    clear hWf y0 y1 y2 y3 y4 y5 y6 y7 f0 f1 f2 f3 f4 f5 f6 f7
    have hEf := hbf.blk hE2 (by simp)
    have hR9 := hRf.other (p := ⟨w.heap.size + 3, 0, none⟩) (by simp) (.int .i64 1)
    have hE9 := hEf.set 0 (.int .i64 1)
    have hs2 := hbw2.size
    have hbw9 : Below w.heap.size w (Wf.setCell ⟨w.heap.size + 3, 0, none⟩ (.int .i64 1)) := (hbw2.trans (hbf.old (by omega) (by simp))).setCell (by simp) _
    unfold lzC at hR9
    generalize Wf.setCell ⟨w.heap.size + 3, 0, none⟩ (.int .i64 1) = W9 at *
    have o0 : W9.cell? ⟨w.heap.size + 2, 0, none⟩ = _ := hR9.cell (i := 0) rfl
    have o1 : W9.cell? ⟨w.heap.size + 2, 1, none⟩ = _ := hR9.cell (i := 1) rfl
    have o2 : W9.cell? ⟨w.heap.size + 2, 2, none⟩ = _ := hR9.cell (i := 2) rfl
    have o3 : W9.cell? ⟨w.heap.size + 2, 3, none⟩ = _ := hR9.cell (i := 3) rfl
    have o4 : W9.cell? ⟨w.heap.size + 2, 4, none⟩ = _ := hR9.cell (i := 4) rfl
    have o5 : W9.cell? ⟨w.heap.size + 2, 5, none⟩ = _ := hR9.cell (i := 5) rfl
    have o6 : W9.cell? ⟨w.heap.size + 2, 6, none⟩ = _ := hR9.cell (i := 6) rfl
    have o7 : W9.cell? ⟨w.heap.size + 2, 7, none⟩ = _ := hR9.cell (i := 7) rfl
    have oe : W9.cell? ⟨w.heap.size + 3, 0, none⟩ = _ := hE9.cell (i := 0) rfl
    refine ⟨.tuple #[.agg #[.slice none 0 0, .slice none 0 0, .int .i64 0, .int .i64 0, .int .i64 0, .int .i64 0, .int .i64 0, .slice none 0 0], .int .i64 1], by simp [results, Tryz.results29, go_sem, o0, o1, o2, o3, o4, o5, o6, o7, oe], _, rfl, lz_fr _ _, hbw9⟩
  rw [idx_hit a.kind hk]
  obtain ⟨ki, hki⟩ : ∃ ki : Nat, a.kind - 1 = ki := ⟨(a.kind - 1).toNat, by omega⟩
  have hki8 : ki < 8 := by omega
  rw [hki]
  have hki0 : ¬ (ki : Int) < 0 := by omega
  go_upto_region 5 with fail
  refine Dr.wp_region_plan 10 [] (.q [0, 1, 3, 4, 6, 7] (.e1 2 (.q [9] (.e1 5 (.e1 8 .done))))) (by kernel_rfl) (by kernel_rfl) ?_
  have hX3 := hX2.drew
  have hY3 := hY2.drew
  have hR3 := hR2.drew
  have hE3 := hE2.drew
  have hL3 := hL2.ext (ext_drew W2)
  have hbw3 := hbw2.drew
  clear hX2 hY2 hR2 hE2 hL2 hbw2 W1
  generalize W2.drew = W3 at *
  have q0 := Dr.cell0 (hX3.cell (i := 0) rfl)
  have q1 := Dr.cell0 (hX3.cell (i := 1) rfl)
  have q7 := Dr.cell0 (hX3.cell (i := 7) rfl)
  refine Dr.plan_q (l := [_, _, _, _, _, _]) rfl (fun K hK => ?_)
  iterate 6 (go_big_quiet_step (fail))
  refine wpQuiet_nil (hK _ ?_); clear hK K
  clear q0 q1 q7
  refine Dr.plan_e rfl (by rfl) (fun K hK => ?_)
  go_wp2_with fail
  refine (clone_int A n c l.windows W3 hL3.hn (by have := hL3.n9; omega) hL3.a).mono ?_; rintro r W4 ⟨v0, rfl, ow, hb4⟩
  refine hK _ _ (.of hb4) ?_; clear hK K
  have hL4 := hL3.ext hb4
  refine Dr.plan_q (l := [_]) rfl (fun K hK => ?_)
  iterate 1 (go_big_quiet_step (fail))
  refine wpQuiet_nil (hK _ ?_); clear hK K
  refine Dr.plan_e rfl (by rfl) (fun K hK => ?_)
  go_wp2_with fail
  refine (clone_bag B m d l.bags W4 hL4.hm (by have := hL4.m9; omega) hL4.b).mono ?_; rintro r W5 ⟨v1, rfl, ob, hb5⟩
  refine hK _ _ (.of hb5) ?_; clear hK K
  have hL5 := hL4.ext hb5
  refine Dr.plan_e rfl (by rfl) (fun K hK => ?_)
  go_wp2_with fail
  refine (clone_dif D q e l.diffs W5 hL5.hq (by have := hL5.q9; omega) hL5.d).mono ?_; rintro r W6 ⟨v2, rfl, od, hb6⟩
  refine hK _ _ (.of hb6) ?_; clear hK K
  obtain ⟨A', c', hv0, -, -, -⟩ := ow.cells encI_len
  obtain ⟨B', d', hv1, -, -, -⟩ := ob.cells bag_len
  obtain ⟨D', e', hv2, -, -, -⟩ := od.cells dif_len
  rw [hL3.hn] at hv0
  rw [hL3.hm] at hv1
  rw [hL3.hq] at hv2
  subst hv0 hv1 hv2
  have hbl := (ext_trans (ext_trans hb4 hb5) hb6)
  have hbw6 := ext_trans hbw3 hbl
  have hX6 := hX3.ext hbl
  have hY6 := hY3.ext hbl
  have hR6 := hR3.ext hbl
  have hE6 := hE3.ext hbl
  have ow6 := ow.ext (ext_trans hb5 hb6)
  have ob6 := (ob.ext hb6).weak hb4.size
  have od6 := od.weak (Nat.le_trans hb4.size hb5.size)
  have dw : ∀ k, (Value.slice A' n c').ownBlock = some k → k < W4.heap.size := fun k hk => (ow.lt hk).2
  have db : ∀ k, (Value.slice B' m d').ownBlock = some k → W4.heap.size ≤ k ∧ k < W5.heap.size := fun k hk => ob.lt hk
  have dd : ∀ k, (Value.slice D' q e').ownBlock = some k → W5.heap.size ≤ k ∧ k < W6.heap.size := fun k hk => od.lt hk
  have hs3 := hX3.lt
  have hE3l := hE3.lt
  have hs4 := hb4.size
  have hs5 := hb5.size
  have hs6 := hb6.size
  have hsz3 := hbw3.size
  have nn := And.intro hL3.hn (And.intro hL3.hm (And.intro hL3.hq (And.intro hL3.n9 (And.intro hL3.m9 hL3.q9))))
  have NN := Lib.hid nn
  clear nn hL3 hL4 hL5 ow ob od hX3 hY3 hR3 hE3 hbw3 hb4 hb5 hb6 hbl
  have x0 : W6.cell? ⟨w.heap.size, 0, none⟩ = _ := hX6.cell (i := 0) rfl
  have x1 : W6.cell? ⟨w.heap.size, 1, none⟩ = _ := hX6.cell (i := 1) rfl
  have x7 : W6.cell? ⟨w.heap.size, 7, none⟩ = _ := hX6.cell (i := 7) rfl
  have f0 := hX6.free 0
  have f1 := hX6.free 1
  have f7 := hX6.free 7
  refine Dr.plan_done (tl := [_, _, _, _, _]) rfl ?_
  go_upto_region 6 with fail
  have hX7 := ((hX6.set 0 (.slice A' n c')).set 1 (.slice B' m d')).set 7 (.slice D' q e')
  simp only [List.set] at hX7
  have hY7 := ((hY6.other (p := ⟨w.heap.size, 0, none⟩) (by simp) (.slice A' n c')).other (p := ⟨w.heap.size, 1, none⟩) (by simp) (.slice B' m d')).other (p := ⟨w.heap.size, 7, none⟩) (by simp) (.slice D' q e')
  have hR7 := ((hR6.other (p := ⟨w.heap.size, 0, none⟩) (by simp; omega) (.slice A' n c')).other (p := ⟨w.heap.size, 1, none⟩) (by simp; omega) (.slice B' m d')).other (p := ⟨w.heap.size, 7, none⟩) (by simp; omega) (.slice D' q e')
  have hE7 := ((hE6.other (p := ⟨w.heap.size, 0, none⟩) (by simp; omega) (.slice A' n c')).other (p := ⟨w.heap.size, 1, none⟩) (by simp; omega) (.slice B' m d')).other (p := ⟨w.heap.size, 7, none⟩) (by simp; omega) (.slice D' q e')
  have ow7 := ((ow6.setCell (p := ⟨w.heap.size, 0, none⟩) hs3 (.slice A' n c')).setCell (p := ⟨w.heap.size, 1, none⟩) hs3 (.slice B' m d')).setCell (p := ⟨w.heap.size, 7, none⟩) hs3 (.slice D' q e')
  have ob7 := ((ob6.setCell (p := ⟨w.heap.size, 0, none⟩) hs3 (.slice A' n c')).setCell (p := ⟨w.heap.size, 1, none⟩) hs3 (.slice B' m d')).setCell (p := ⟨w.heap.size, 7, none⟩) hs3 (.slice D' q e')
  have od7 := ((od6.setCell (p := ⟨w.heap.size, 0, none⟩) hs3 (.slice A' n c')).setCell (p := ⟨w.heap.size, 1, none⟩) hs3 (.slice B' m d')).setCell (p := ⟨w.heap.size, 7, none⟩) hs3 (.slice D' q e')
  have hbw7 := ((hbw6.setCell (p := ⟨w.heap.size, 0, none⟩) (Nat.le_refl _) (.slice A' n c')).setCell (p := ⟨w.heap.size, 1, none⟩) (Nat.le_refl _) (.slice B' m d')).setCell (p := ⟨w.heap.size, 7, none⟩) (Nat.le_refl _) (.slice D' q e')
  have hsz7 : (((W6.setCell ⟨w.heap.size, 0, none⟩ (.slice A' n c')).setCell ⟨w.heap.size, 1, none⟩ (.slice B' m d')).setCell ⟨w.heap.size, 7, none⟩ (.slice D' q e')).heap.size = W6.heap.size := by simp [World.setCell]
  clear hX6 hY6 hR6 hE6 ow6 ob6 od6 hbw6 x0 x1 x7 f0 f1 f7
  generalize ((W6.setCell ⟨w.heap.size, 0, none⟩ (.slice A' n c')).setCell ⟨w.heap.size, 1, none⟩ (.slice B' m d')).setCell ⟨w.heap.size, 7, none⟩ (.slice D' q e') = W7 at *
  have x0 : W7.cell? ⟨w.heap.size, 0, none⟩ = _ := hX7.cell (i := 0) rfl
  have x1 : W7.cell? ⟨w.heap.size, 1, none⟩ = _ := hX7.cell (i := 1) rfl
  have x2 : W7.cell? ⟨w.heap.size, 2, none⟩ = _ := hX7.cell (i := 2) rfl
  have x3 : W7.cell? ⟨w.heap.size, 3, none⟩ = _ := hX7.cell (i := 3) rfl
  have x4 : W7.cell? ⟨w.heap.size, 4, none⟩ = _ := hX7.cell (i := 4) rfl
  have x5 : W7.cell? ⟨w.heap.size, 5, none⟩ = _ := hX7.cell (i := 5) rfl
  have x6 : W7.cell? ⟨w.heap.size, 6, none⟩ = _ := hX7.cell (i := 6) rfl
  have x7 : W7.cell? ⟨w.heap.size, 7, none⟩ = _ := hX7.cell (i := 7) rfl
  have k0 : W7.cell? ⟨w.heap.size + 1, 0, none⟩ = _ := hY7.cell (i := 0) rfl
  have k1 : W7.cell? ⟨w.heap.size + 1, 1, none⟩ = _ := hY7.cell (i := 1) rfl
  have k2 : W7.cell? ⟨w.heap.size + 1, 2, none⟩ = _ := hY7.cell (i := 2) rfl
  have k3 : W7.cell? ⟨w.heap.size + 1, 3, none⟩ = _ := hY7.cell (i := 3) rfl
  have k4 : W7.cell? ⟨w.heap.size + 1, 4, none⟩ = _ := hY7.cell (i := 4) rfl
  have k5 : W7.cell? ⟨w.heap.size + 1, 5, none⟩ = _ := hY7.cell (i := 5) rfl
  go_upto_region 7 with fail
  have hP := Blk.new W7 117 [.slice A' n c', .slice B' m d', .int .i64 lo, .int .i64 lk, .int .i64 lg, .int .i64 li, .int .i64 lt, .slice D' q e', .int .u8 a.kind, .int .i64 a.window, .int .i64 a.bag, .int .i64 a.sl, .int .i64 a.amount, .int .i64 a.written]
  have hR8 := hR7.alloc (.cells #[.slice A' n c', .slice B' m d', .int .i64 lo, .int .i64 lk, .int .i64 lg, .int .i64 li, .int .i64 lt, .slice D' q e', .int .u8 a.kind, .int .i64 a.window, .int .i64 a.bag, .int .i64 a.sl, .int .i64 a.amount, .int .i64 a.written] 117)
  have hE8 := hE7.alloc (.cells #[.slice A' n c', .slice B' m d', .int .i64 lo, .int .i64 lk, .int .i64 lg, .int .i64 li, .int .i64 lt, .slice D' q e', .int .u8 a.kind, .int .i64 a.window, .int .i64 a.bag, .int .i64 a.sl, .int .i64 a.amount, .int .i64 a.written] 117)
  have ow8 := ow7.alloc (.cells #[.slice A' n c', .slice B' m d', .int .i64 lo, .int .i64 lk, .int .i64 lg, .int .i64 li, .int .i64 lt, .slice D' q e', .int .u8 a.kind, .int .i64 a.window, .int .i64 a.bag, .int .i64 a.sl, .int .i64 a.amount, .int .i64 a.written] 117)
  have ob8 := ob7.alloc (.cells #[.slice A' n c', .slice B' m d', .int .i64 lo, .int .i64 lk, .int .i64 lg, .int .i64 li, .int .i64 lt, .slice D' q e', .int .u8 a.kind, .int .i64 a.window, .int .i64 a.bag, .int .i64 a.sl, .int .i64 a.amount, .int .i64 a.written] 117)
  have od8 := od7.alloc (.cells #[.slice A' n c', .slice B' m d', .int .i64 lo, .int .i64 lk, .int .i64 lg, .int .i64 li, .int .i64 lt, .slice D' q e', .int .u8 a.kind, .int .i64 a.window, .int .i64 a.bag, .int .i64 a.sl, .int .i64 a.amount, .int .i64 a.written] 117)
  have hbw8 := hbw7.alloc (by omega) (.cells #[.slice A' n c', .slice B' m d', .int .i64 lo, .int .i64 lk, .int .i64 lg, .int .i64 li, .int .i64 lt, .slice D' q e', .int .u8 a.kind, .int .i64 a.window, .int .i64 a.bag, .int .i64 a.sl, .int .i64 a.amount, .int .i64 a.written] 117)
  change Blk (W7.alloc (.cells #[.slice A' n c', .slice B' m d', .int .i64 lo, .int .i64 lk, .int .i64 lg, .int .i64 li, .int .i64 lt, .slice D' q e', .int .u8 a.kind, .int .i64 a.window, .int .i64 a.bag, .int .i64 a.sl, .int .i64 a.amount, .int .i64 a.written] 117)) _ _ _ at hP
  clear hX7 hY7 hR7 hE7 ow7 ob7 od7 hbw7 x0 x1 x2 x3 x4 x5 x6 x7 k0 k1 k2 k3 k4 k5
  generalize W7.alloc (.cells #[.slice A' n c', .slice B' m d', .int .i64 lo, .int .i64 lk, .int .i64 lg, .int .i64 li, .int .i64 lt, .slice D' q e', .int .u8 a.kind, .int .i64 a.window, .int .i64 a.bag, .int .i64 a.sl, .int .i64 a.amount, .int .i64 a.written] 117) = W8 at *
  rw [hsz7] at hP
  generalize hPP : W6.heap.size = P at *
  clear hsz7 hPP
  have hl := Hl.out
  have hdk : dkC (.slice A' n c') (.slice B' m d') (.slice D' q e') l a = [.slice A' n c', .slice B' m d', .int .i64 lo, .int .i64 lk, .int .i64 lg, .int .i64 li, .int .i64 lt, .slice D' q e', .int .u8 a.kind, .int .i64 a.window, .int .i64 a.bag, .int .i64 a.sl, .int .i64 a.amount, .int .i64 a.written] := by
    unfold dkC; rw [hl.1, hl.2.1, hl.2.2.1, hl.2.2.2.1, hl.2.2.2.2]
  rw [← hdk] at hP
  have hN := NN.out
  have desk : DeskM W3.heap.size W8 P A' n c' B' m d' D' q e' l a := ⟨hP, hN.1, hN.2.1, hN.2.2.1, hN.2.2.2.1, hN.2.2.2.2.1, hN.2.2.2.2.2, ow8, ob8, od8,
    fun h => by have := dw _ h; omega, fun h => by have := (db _ h).2; omega, fun h => by have := (dd _ h).2; omega,
    fun k h1 h2 => by have := dw _ h1; have := (db _ h2).1; omega, fun k h1 h2 => by have := dw _ h1; have := (dd _ h2).1; omega, fun k h1 h2 => by have := (db _ h1).2; have := (dd _ h2).1; omega, by omega⟩
  have hR3l : w.heap.size + 2 < W3.heap.size := by omega
  clear hP ow8 ob8 od8 hdk hN hl dw db dd NN hs4 hs5 hs6
  go_wp2_with fail
  refine (entries_any W8).mono ?_; rintro r W9 ⟨g1, rfl, hent, -, hb9⟩
  have hR9 := hR8.ext hb9
  have hE9 := hE8.ext hb9
  have desk9 := desk.ext hb9
  have hbw9 := ext_trans hbw8 hb9
  clear hR8 hE8 desk hbw8 hb9
  have hkl : ki < entL.length := by simpa [entL] using hki8
  obtain ⟨bb, oo, hbb, -, -, c1⟩ := hent.at2 hkl rfl
  cases hbb
  rw [show entL[ki].2 = 79 + ki by rw [ent_at ki hki8]] at c1
  simp only [Nat.zero_add] at c1
  have hk1 : a.kind = (ki : Int) + 1 := by omega
  have CO := Lib.hid (op_any ki hki8 hk1 desk9 Hmon.out (by omega))
  have eg := op_ent ki hki8
  unfold Enters at eg
  have hki1 : (ki : Int) < 8 := by omega
  have hki2 : (0 : Int) ≤ (ki : Int) := by omega
  have hb3s : W3.heap.size ≤ W9.heap.size := Nat.le_trans desk9.hP (Nat.le_of_lt desk9.blk.lt)
  clear hent hkl hk1 desk9 hki hk
  go_wp2_with fail
  refine CO.out.mono ?_; rintro r W10 ⟨hb10, h10⟩
  have hR10 := hR9.under hb10 (by omega)
  have hE10 := hE9.under hb10 hE3l
  have hbw10 : Below w.heap.size w W10 := hbw9.trans (hb10.mono hsz3)
  have hs10 := hb10.size
  clear hR9 hE9 hbw9 hb10 CO eg c1
  rw [Hres.out] at h10
  obtain ⟨rl, re⟩ := res
  simp only at h10 ⊢
  rcases h10 with ⟨rfl, rfl, a', A2, n2, c2, B2, m2, d2, D2, q2, e2, desk⟩ | ⟨hne, rfl⟩
  · have hq0 := desk.blk
    unfold dkC at hq0
    have x0 : W10.cell? ⟨P, 0, none⟩ = _ := hq0.cell (i := 0) rfl
    have x1 : W10.cell? ⟨P, 1, none⟩ = _ := hq0.cell (i := 1) rfl
    have x2 : W10.cell? ⟨P, 2, none⟩ = _ := hq0.cell (i := 2) rfl
    have x3 : W10.cell? ⟨P, 3, none⟩ = _ := hq0.cell (i := 3) rfl
    have x4 : W10.cell? ⟨P, 4, none⟩ = _ := hq0.cell (i := 4) rfl
    have x5 : W10.cell? ⟨P, 5, none⟩ = _ := hq0.cell (i := 5) rfl
    have x6 : W10.cell? ⟨P, 6, none⟩ = _ := hq0.cell (i := 6) rfl
    have x7 : W10.cell? ⟨P, 7, none⟩ = _ := hq0.cell (i := 7) rfl
    have y0 : W10.cell? ⟨w.heap.size + 1 + 1, 0, none⟩ = _ := hR10.cell (i := 0) rfl
    have y1 : W10.cell? ⟨w.heap.size + 1 + 1, 1, none⟩ = _ := hR10.cell (i := 1) rfl
    have y2 : W10.cell? ⟨w.heap.size + 1 + 1, 2, none⟩ = _ := hR10.cell (i := 2) rfl
    have y3 : W10.cell? ⟨w.heap.size + 1 + 1, 3, none⟩ = _ := hR10.cell (i := 3) rfl
    have y4 : W10.cell? ⟨w.heap.size + 1 + 1, 4, none⟩ = _ := hR10.cell (i := 4) rfl
    have y5 : W10.cell? ⟨w.heap.size + 1 + 1, 5, none⟩ = _ := hR10.cell (i := 5) rfl
    have y6 : W10.cell? ⟨w.heap.size + 1 + 1, 6, none⟩ = _ := hR10.cell (i := 6) rfl
    have y7 : W10.cell? ⟨w.heap.size + 1 + 1, 7, none⟩ = _ := hR10.cell (i := 7) rfl
    have f0 := hR10.free 0
    have f1 := hR10.free 1
    have f2 := hR10.free 2
    have f3 := hR10.free 3
    have f4 := hR10.free 4
    have f5 := hR10.free 5
    have f6 := hR10.free 6
    have f7 := hR10.free 7
    have z0 : W10.cell? ⟨w.heap.size + 1 + 1 + 1, 0, none⟩ = _ := hE10.cell (i := 0) rfl
    have g0' := hE10.free 0
    go_wp2
    generalize hWf : World.setCell _ _ (Value.slice D2 q2 e2) = Wf
    have hRf := hR10.put_eq [.slice A2 n2 c2, .slice B2 m2 d2, .int .i64 rl.office, .int .i64 rl.bank, .int .i64 rl.begun, .int .i64 rl.inn, .int .i64 rl.out, .slice D2 q2 e2] hWf rfl
    have hbf : Dr.Bel [w.heap.size + 1 + 1] W10 Wf := bel_put_eq [.slice A2 n2 c2, .slice B2 m2 d2, .int .i64 rl.office, .int .i64 rl.bank, .int .i64 rl.begun, .int .i64 rl.inn, .int .i64 rl.out, .slice D2 q2 e2] hWf
    have ow8 : OwnL Wf W3.heap.size 3 1 encI (.slice A2 n2 c2) rl.windows := by
      rw [← hWf]
      iterate 8 (refine OwnL.put ?_ (fun hk => by have := desk.ow.lt hk; simp only at this; omega) _)
      exact desk.ow
    have ob8 : OwnL Wf W3.heap.size 80 6 Bag.enc (.slice B2 m2 d2) rl.bags := by
      rw [← hWf]
      iterate 8 (refine OwnL.put ?_ (fun hk => by have := desk.ob.lt hk; simp only at this; omega) _)
      exact desk.ob
    have od8 : OwnL Wf W3.heap.size 76 3 Dif.enc (.slice D2 q2 e2) rl.diffs := by
      rw [← hWf]
      iterate 8 (refine OwnL.put ?_ (fun hk => by have := desk.od.lt hk; simp only at this; omega) _)
      exact desk.od
    clear hWf x0 x1 x2 x3 x4 x5 x6 x7 y0 y1 y2 y3 y4 y5 y6 y7 f0 f1 f2 f3 f4 f5 f6 f7
    have hEf := hbf.blk hE10 (by simp)
    have hR9 := hRf.other (p := ⟨w.heap.size + 1 + 1 + 1, 0, none⟩) (by simp) (.int .i64 0)
    have hE9 := hEf.set 0 (.int .i64 0)
    have ow9 := ow8.put (p := ⟨w.heap.size + 1 + 1 + 1, 0, none⟩) (fun hk => by have := desk.ow.lt hk; simp only at this; omega) (.int .i64 0)
    have ob9 := ob8.put (p := ⟨w.heap.size + 1 + 1 + 1, 0, none⟩) (fun hk => by have := desk.ob.lt hk; simp only at this; omega) (.int .i64 0)
    have od9 := od8.put (p := ⟨w.heap.size + 1 + 1 + 1, 0, none⟩) (fun hk => by have := desk.od.lt hk; simp only at this; omega) (.int .i64 0)
    have hs2 := hbw10.size
    have hbw9 : Below w.heap.size w (Wf.setCell ⟨w.heap.size + 1 + 1 + 1, 0, none⟩ (.int .i64 0)) := (hbw10.trans (hbf.old (by omega) (by simp; omega))).setCell (by simp; omega) _
    generalize Wf.setCell ⟨w.heap.size + 1 + 1 + 1, 0, none⟩ (.int .i64 0) = W11 at *
    refine leaves_cons (f := 56) (args := #[.pointer (some ⟨w.heap.size + 1 + 1, 0, none⟩), .pointer (some ⟨w.heap.size + 1 + 1 + 1, 0, none⟩)]) (by simp) (by simp [go_sem]) ?_
    refine (catch_idle _ _ _).mono ?_; rintro e u' w'' ⟨rfl, rfl, rfl⟩
    have o0 : w''.cell? ⟨w.heap.size + 1 + 1, 0, none⟩ = _ := hR9.cell (i := 0) rfl
    have o1 : w''.cell? ⟨w.heap.size + 1 + 1, 1, none⟩ = _ := hR9.cell (i := 1) rfl
    have o2 : w''.cell? ⟨w.heap.size + 1 + 1, 2, none⟩ = _ := hR9.cell (i := 2) rfl
    have o3 : w''.cell? ⟨w.heap.size + 1 + 1, 3, none⟩ = _ := hR9.cell (i := 3) rfl
    have o4 : w''.cell? ⟨w.heap.size + 1 + 1, 4, none⟩ = _ := hR9.cell (i := 4) rfl
    have o5 : w''.cell? ⟨w.heap.size + 1 + 1, 5, none⟩ = _ := hR9.cell (i := 5) rfl
    have o6 : w''.cell? ⟨w.heap.size + 1 + 1, 6, none⟩ = _ := hR9.cell (i := 6) rfl
    have o7 : w''.cell? ⟨w.heap.size + 1 + 1, 7, none⟩ = _ := hR9.cell (i := 7) rfl
    have oe : w''.cell? ⟨w.heap.size + 1 + 1 + 1, 0, none⟩ = _ := hE9.cell (i := 0) rfl
    refine ⟨.tuple #[.agg #[.slice A2 n2 c2, .slice B2 m2 d2, .int .i64 rl.office, .int .i64 rl.bank, .int .i64 rl.begun, .int .i64 rl.inn, .int .i64 rl.out, .slice D2 q2 e2], .int .i64 0], by simp [results, Tryz.results29, go_sem, o0, o1, o2, o3, o4, o5, o6, o7, oe], _, rfl, ?_, hbw9⟩
    obtain ⟨A3, c3, hv0, -, -, k0, r0⟩ := FreshL.of_own (w := w) ow9 encI_len (by omega)
    obtain ⟨B3, d3, hv1, -, -, k1, r1⟩ := FreshL.of_own (w := w) ob9 bag_len (by omega)
    obtain ⟨D3, e3, hv2, -, -, k2, r2⟩ := FreshL.of_own (w := w) od9 dif_len (by omega)
    cases hv0; cases hv1; cases hv2
    exact ⟨_, _, _, _, _, _, _, _, _, rfl, ⟨⟨desk.hn, desk.hm, desk.hq, desk.n9, desk.m9, desk.q9, k0, k1, k2⟩, r0, r1, r2⟩⟩
  · have hz : rl = Led.zero := by
      have := doL_err l a (by rw [Hres.out]; exact hne)
      rw [Hres.out] at this; exact this
    subst hz
    show Leaves Tryz.prog Tryz.f29 _ _ (_ :: _) _ _
    refine leaves_cons (f := 56) (args := #[.pointer (some ⟨w.heap.size + 1 + 1, 0, none⟩), .pointer (some ⟨w.heap.size + 1 + 1 + 1, 0, none⟩)]) (by simp) (by simp [go_sem]) ?_
    refine (catch_refused (w.heap.size + 1 + 1) (w.heap.size + 1 + 1 + 1) re 0 _ [] W10 hR10 rfl hE10 (by omega)).mono ?_; rintro e u' W11 ⟨rfl, rfl, hb11, hR9, hE9⟩
    have hs2 := hbw10.size
    have hbw9 : Below w.heap.size w W11 := hbw10.trans (hb11.old (by omega) (by simp; omega))
    unfold lzC at hR9
    have o0 : W11.cell? ⟨w.heap.size + 1 + 1, 0, none⟩ = _ := hR9.cell (i := 0) rfl
    have o1 : W11.cell? ⟨w.heap.size + 1 + 1, 1, none⟩ = _ := hR9.cell (i := 1) rfl
    have o2 : W11.cell? ⟨w.heap.size + 1 + 1, 2, none⟩ = _ := hR9.cell (i := 2) rfl
    have o3 : W11.cell? ⟨w.heap.size + 1 + 1, 3, none⟩ = _ := hR9.cell (i := 3) rfl
    have o4 : W11.cell? ⟨w.heap.size + 1 + 1, 4, none⟩ = _ := hR9.cell (i := 4) rfl
    have o5 : W11.cell? ⟨w.heap.size + 1 + 1, 5, none⟩ = _ := hR9.cell (i := 5) rfl
    have o6 : W11.cell? ⟨w.heap.size + 1 + 1, 6, none⟩ = _ := hR9.cell (i := 6) rfl
    have o7 : W11.cell? ⟨w.heap.size + 1 + 1, 7, none⟩ = _ := hR9.cell (i := 7) rfl
    have oe : W11.cell? ⟨w.heap.size + 1 + 1 + 1, 0, none⟩ = _ := hE9.cell (i := 0) rfl
    refine ⟨.tuple #[.agg #[.slice none 0 0, .slice none 0 0, .int .i64 0, .int .i64 0, .int .i64 0, .int .i64 0, .int .i64 0, .slice none 0 0], .int .i64 re], by simp [results, Tryz.results29, go_sem, o0, o1, o2, o3, o4, o5, o6, o7, oe], _, rfl, lz_fr _ _, hbw9⟩
end Go.Proofs.YtnjdlhhgnamigaaGreat
