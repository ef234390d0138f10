/- Walks: ranked, falling, numbers. -/
import Derived.Test.YtbpmfaibcibleaaSorW
import Derived.Test.YtbpmfaibcibleaaWaG
namespace Go.Dr
open Go.RowKit Go.Bs Go.Pl Go.Sort
theorem Bel.then_below {M : List Nat} {a b c : World} (h : Bel M a b) (k : Below a.heap.size b c) : Bel M a c :=
  ⟨k.os.trans h.os, k.tape.trans h.tape, k.output.trans h.output, Nat.le_trans h.size k.size, fun i hi hm => (k.block i hi).trans (h.block i hi hm)⟩
theorem Bel.put {M : List Nat} {a b : World} (h : Bel M a b) {p : Addr} (hp : p.block ∈ M) (u : Value) : Bel M a (b.setCell p u) := h.trans (Bel.store hp u)
theorem Bel.old {M : List Nat} {a b : World} {n : Nat} (h : Bel M a b) (hn : n ≤ a.heap.size) (hM : ∀ k ∈ M, n ≤ k) : Below n a b :=
  ⟨h.os, h.tape, h.output, h.size, fun k hk => h.block k (Nat.lt_of_lt_of_le hk hn) (fun hm => by have := hM k hm; omega)⟩
theorem Bel.blk {M : List Nat} {a b : World} (h : Bel M a b) {B T : Nat} {cs : List Value} (hB : Blk a B T cs) (hm : B ∉ M) : Blk b B T cs := (h.block B hB.lt hm).trans hB
theorem Bel.wide {M N : List Nat} {a b : World} (h : Bel M a b) (hs : ∀ k ∈ M, k ∈ N) : Bel N a b := ⟨h.os, h.tape, h.output, h.size, fun i hi hm => h.block i hi (fun hk => hm (hs i hk))⟩
theorem cells_bel {α : Type} {w w' : World} {M : List Nat} {A : Option Addr} {sz : Nat} {enc : α → List Value} {l : List α} (h : Cells w A sz enc l) (hb : Bel M w w') (hA : ∀ k, A.map (·.block) = some k → k ∉ M) : Cells w' A sz enc l := by
  refine h.keep (fun p hp hq => ?_)
  rw [World.cell?_of_block (hb.block p.block hp (hA _ hq))]
/-- of a new row of one element -/
theorem new_cell {w : World} {T : Nat} {cs : List Value} : ∀ j u, cs[j]? = some u → (w.alloc (.cells cs.toArray T)).cell? ⟨w.heap.size, j, none⟩ = some u := fun _ _ h => (Blk.new w T cs).cell h
end Go.Dr
namespace Go.Wg
open Go.RowKit Go.Bs Go.Pl
/-- what is asked of a key -/
def KeyB (P : Program) (g : Nat) (lb : Array Value) (key : Int → Int) (w : World) (M : List Nat) (S : List Int) : Prop :=
  ∀ (W : World) (x : Int), x ∈ S → Dr.Bel M w W → Calls P g (#[.int .i64 x] ++ lb) W fun e w' => e = .returned (.int .i64 (key x)) ∧ Below W.heap.size W w'
theorem KeyB.later {P : Program} {g : Nat} {lb : Array Value} {key : Int → Int} {w w' : World} {M : List Nat} {S : List Int} (h : KeyB P g lb key w M S) (hb : Dr.Bel M w w') : KeyB P g lb key w' M S :=
  fun W x hx hW => h W x hx (hb.trans hW)
end Go.Wg
namespace Go.Proofs.Ytbpmfaibcibleaa
open Go.RowKit Go.Bs Go.Wg Go.Pl Go.Sort
theorem stab_none (g : Nat) (lb : Array Value) (A : Option Addr) (cap : Nat) (w : World) :
    Calls Try.prog 110 #[.slice A 0 cap, .func (.func g) #[] lb] w fun e w' => e = .returned (.tuple #[]) ∧ w = w' := by
  have H : Calls Try.prog 126 #[.slice A 0 cap, .int .i64 0, .func (.func g) #[] lb] w fun e w' => e = .returned (.tuple #[]) ∧ w = w' := by
    go_enter Try.func126, Try.ntmps126
    go_wp2
    go_loopw [7, 8] (fun x y wr => x = .int .i64 0 ∧ y = .int .i64 20 ∧ w = wr) (fun x _ _ => 0)
    case atStart => exact ⟨rfl, rfl, rfl⟩
    case round =>
      obtain ⟨rfl, rfl, rfl⟩ := hrel
      go_wp2_with fail
      refine (ins_none g lb A 0 cap 0 _ (by omega)).mono ?_; rintro e w1 ⟨rfl, rfl⟩
      go_wp2
      go_loopw [6] (fun x wr' => x = .int .i64 20 ∧ w = wr') (fun x _ => 0)
      case atStart => exact ⟨rfl, rfl⟩
      case round =>
        obtain ⟨rfl, rfl⟩ := hrel
        go_wp2
        go_end0
        exact ⟨rfl, rfl⟩
  have HH := Lib.hid H
  clear H
  go_enter Try.func110, Try.ntmps110
  go_wp2_with fail
  refine HH.out.mono ?_; rintro e w1 ⟨rfl, rfl⟩
  go_wp2
  go_end0
  exact ⟨rfl, rfl⟩
theorem rankedC (g : Nat) (lb : Array Value) (key : Int → Int) (F : Nat) (M : List Nat) (S : List Int) (w : World) (eg : Enters Try.prog g) (hk : KeyB Try.prog g lb key w M S) (hb : ∀ x ∈ S, -100000 ≤ key x ∧ key x ≤ 100000) (hF : F ∉ M) (hc : w.cell? ⟨F, 0, none⟩ = some (.func (.func g) #[] lb)) :
    CmpB 111 #[.pointer (some ⟨F, 0, none⟩)] (fun a b => key a - key b) w M S := by
  intro W x y hx hy hW
  have hFlt := cell_lt hc
  have hcW : W.cell? ⟨F, 0, none⟩ = some (.func (.func g) #[] lb) := by
    rw [World.cell?_of_block (hW.block F hFlt hF)]; exact hc
  have hlt := cell_lt hcW
  have hbx := hb x hx
  have hby := hb y hy
  have Hk := Lib.hid hk
  unfold Enters at eg
  have C1 := Lib.hid (fun V (hV : Below W.heap.size W V) => Hk.out V x hx (hW.trans (.of hV)))
  have C2 := Lib.hid (fun V (hV : Below W.heap.size W V) => Hk.out V y hy (hW.trans (.of hV)))
  show Calls Try.prog 111 #[.int .i64 x, .int .i64 y, .pointer (some ⟨F, 0, none⟩)] W fun e w' => e = .returned (.int .i64 (key x - key y)) ∧ Below W.heap.size W w'
  generalize key x = kx at *
  generalize key y = ky at *
  clear hk hb hc hFlt hF
  go_enter Try.func111, Try.ntmps111
  go_upto_region 1 with fail
  refine Dr.wp_region_plan 8 [] (.q [0, 1, 3, 4] (.e1 2 (.e1 5 (.q [6, 7] .done)))) (by kernel_rfl) (by kernel_rfl) ?_
  have hb1 := ext_drew W
  have hc1 : W.drew.cell? ⟨F, 0, none⟩ = some (.func (.func g) #[] lb) := hcW
  clear hcW
  generalize World.drew _ = W1 at *
  have q0 := Dr.cell0 hc1
  refine Dr.plan_q (l := [_, _, _, _]) rfl (fun K hK => ?_)
  iterate 4 (go_big_quiet_step (fail))
  refine wpQuiet_nil (hK _ ?_); clear hK K q0
  have D1 := Lib.hid (C1.out W1 hb1)
  refine Dr.plan_e rfl (by rfl) (fun K hK => ?_)
  go_wp2_with fail
  refine D1.out.mono ?_; rintro e W2 ⟨rfl, hx2⟩
  refine hK _ _ (.of hx2) ?_; clear hK K D1
  have hb2 := ext_trans hb1 hx2
  clear hb1 hx2 hc1
  have D2 := Lib.hid (C2.out W2 hb2)
  refine Dr.plan_e rfl (by rfl) (fun K hK => ?_)
  go_wp2_with fail
  refine D2.out.mono ?_; rintro e W3 ⟨rfl, hx3⟩
  refine hK _ _ (.of hx3) ?_; clear hK K D2
  have hb3 := ext_trans hb2 hx3
  refine Dr.plan_q (l := [_, _]) rfl (fun K hK => ?_)
  iterate 2 (go_big_quiet_step (fail))
  refine wpQuiet_nil (hK _ ?_); clear hK K
  refine Dr.plan_end rfl ?_
  go_wp2
  go_ret
  exact ⟨rfl, hb3⟩
theorem ranked_any (g : Nat) (lb : Array Value) (key : Int → Int) (B T n cap : Nat) (l : List Int) (sp : List Value) (w : World) (eg : Enters Try.prog g) (hn : l.length = n) (hm : n ≤ 20) (hB : Blk w B T (l.map (Value.int .i64) ++ sp)) (hk : KeyB Try.prog g lb key w [B] l) (hb : ∀ x ∈ l, -100000 ≤ key x ∧ key x ≤ 100000) :
    Calls Try.prog 87 #[.slice (some ⟨B, 0, none⟩) n cap, .func (.func g) #[] lb] w fun e w' => e = .returned (.tuple #[]) ∧ Dr.Bel [B] w w' ∧ Blk w' B T ((sortL (fun a b => key a - key b) l).map (Value.int .i64) ++ sp) := by
  have hb0 := ext_alloc w (.cells #[.func (.func g) #[] lb] 103)
  have hBF : w.heap.size ∉ [B] := by have := hB.lt; simp; omega
  have C := Lib.hid (stable_any 111 #[.pointer (some ⟨w.heap.size, 0, none⟩)] (fun a b => key a - key b) B T n cap l sp (w.alloc (.cells #[.func (.func g) #[] lb] 103)) (enters_of Try.func111 (by kernel_rfl) rfl) hn hm (hB.ext hb0)
    (rankedC g lb key w.heap.size [B] l _ eg (hk.later (.of hb0)) hb hBF ((Blk.new w 103 [.func (.func g) #[] lb]).cell rfl)))
  clear hB hk hb hn eg
  go_enter Try.func87, Try.ntmps87
  go_wp2_with fail
  refine C.out.mono ?_; rintro e w1 ⟨rfl, hb1, hB1⟩
  go_wp2
  go_end0
  exact ⟨rfl, (Dr.Bel.of hb0).trans hb1, hB1⟩
theorem ranked_nil (g : Nat) (lb : Array Value) (cap : Nat) (w : World) :
    Calls Try.prog 87 #[.slice none 0 cap, .func (.func g) #[] lb] w fun e w' => e = .returned (.tuple #[]) ∧ Below w.heap.size w w' := by
  have hb0 := ext_alloc w (.cells #[.func (.func g) #[] lb] 103)
  have C := Lib.hid (stab_none 111 #[.pointer (some ⟨w.heap.size, 0, none⟩)] none cap (w.alloc (.cells #[.func (.func g) #[] lb] 103)))
  go_enter Try.func87, Try.ntmps87
  go_wp2_with fail
  refine C.out.mono ?_; rintro e w1 ⟨rfl, rfl⟩
  go_wp2
  go_end0
  exact ⟨rfl, hb0⟩
end Go.Proofs.Ytbpmfaibcibleaa
