/- The search's states: how they lie in memory, as keys of a map; what the map holds. -/
import Derived.Maps.OwnSet
import Derived.Maps.OwnOps
import Derived.DeepKeys4
import Derived.Test.YtbpmfaibcibleaaRngS
import Derived.Test.YtbpmfaibcibleaaSorY
/- A look-up of a bool in a map of the call's own. -/
namespace Go
open Go.Maps (Keyed)
theorem plainElem_bool_inv {H : Type} {P : Program} {e : TypeId} (he : P.underlying e = some .bool) {v : Value} {z : DataW H × List MemPlace} (h : plainElem P e v = some z) : ∃ b, v = .bool b ∧ z = (.lit (.bool b), []) := by
  unfold plainElem at h
  rw [he] at h
  cases v <;> simp at h
  exact ⟨_, rfl, h.symm⟩
theorem wpList_lookup_own_bool {H : Type} {P : Program} (w : World) {ops : Array Oper} {rest : List Oper} {o : Oper} {a : Act} {Q : Exit → Act → World → Prop}
    (hg : o.guard = none) (m x : Operand) (t : TypeId) (hop : o.op = Op.lookup t m x false)
    (k e : TypeId) (K : Keyed P k) (ht : P.underlying t = some (.map k e)) (he : P.underlying e = some .bool) (hz : (zeroValue e).run P w = .ok (.bool false) w) (b n : Nat) (D : DataW H)
    (hm : a.eval m = .map (some b)) (hown : w.ownsMap P k (plainElem P e) b n D) (key : Value) (kl : Lit) (hx : a.eval x = key) (hkey : keyOf P k key = some kl)
    (hK : ∀ c : Bool, D.atKey kl (.lit (.bool false)) = .lit (.bool c) → wpList P ops Q rest (a.put o.dst (.bool c)) w) :
    wpList P ops Q (o :: rest) a w := by
  refine wpList_plain hg fun K' hK' => ?_
  obtain ⟨v, ps, hrun, hv⟩ := hown.lookup K ht hz (plainElem_bool he false) hkey
  obtain ⟨c, rfl, hc⟩ := plainElem_bool_inv he hv
  simp only [Prod.mk.injEq] at hc
  unfold Oper.wp
  simp [execOp, hop, hm, hx, hrun, Result.andThen]
  exact hK' _ _ (hK c hc.1)
end Go
namespace Go.Wg
open Go.RowKit Go.Bs Go.Pl
structure Sta where
  next : Nat
  left : List Int
  needs : List Int
/-- a state of the search -/
structure Sta.Ok (x : Sta) (n : Nat) : Prop where
  next : x.next ≤ n
  l6 : x.left.length = 6
  n6 : x.needs.length = 6
  left : ∀ i, 0 ≤ x.left.getD i 0 ∧ x.left.getD i 0 ≤ 2000
  needs : ∀ i, 0 ≤ x.needs.getD i 0 ∧ x.needs.getD i 0 ≤ 1000
/-- (a name of its own, so that the walk leaves it as it stands) -/
def gz (l : List Int) (i : Nat) : Int := l.getD i 0
def staC (x : Sta) : List Value := [.int .i64 x.next, .int .i64 (gz x.left 0), .int .i64 (gz x.left 1), .int .i64 (gz x.left 2), .int .i64 (gz x.left 3), .int .i64 (gz x.left 4), .int .i64 (gz x.left 5),
  .int .i64 (gz x.needs 0), .int .i64 (gz x.needs 1), .int .i64 (gz x.needs 2), .int .i64 (gz x.needs 3), .int .i64 (gz x.needs 4), .int .i64 (gz x.needs 5)]
def staV (x : Sta) : Value := .agg #[.int .i64 x.next, .int .i64 (gz x.left 0), .int .i64 (gz x.left 1), .int .i64 (gz x.left 2), .int .i64 (gz x.left 3), .int .i64 (gz x.left 4), .int .i64 (gz x.left 5),
  .int .i64 (gz x.needs 0), .int .i64 (gz x.needs 1), .int .i64 (gz x.needs 2), .int .i64 (gz x.needs 3), .int .i64 (gz x.needs 4), .int .i64 (gz x.needs 5)]
theorem list6_ext {a b : List Int} (ha : a.length = 6) (hb : b.length = 6) (h : ∀ i, i < 6 → a.getD i 0 = b.getD i 0) : a = b := by
  apply List.ext_getElem (by omega)
  intro i h1 h2
  have := h i (by omega)
  simpa [List.getD, h1, h2] using this
theorem staV_inj {x y : Sta} (hx : x.left.length = 6 ∧ x.needs.length = 6) (hy : y.left.length = 6 ∧ y.needs.length = 6) (h : staV x = staV y) : x = y := by
  obtain ⟨a, b, c⟩ := x
  obtain ⟨d, e, f⟩ := y
  simp only at hx hy
  simp only [staV, Value.agg.injEq, Array.mk.injEq, List.cons.injEq, Value.int.injEq, true_and, and_true] at h
  obtain ⟨h0, h1, h2, h3, h4, h5, h6, k1, k2, k3, k4, k5, k6⟩ := h
  have e0 : a = d := by omega
  have e1 : b = e := list6_ext hx.1 hy.1 fun i hi => by
    rcases i with _ | _ | _ | _ | _ | _ | i <;> first | assumption | omega
  have e2 : c = f := list6_ext hx.2 hy.2 fun i hi => by
    rcases i with _ | _ | _ | _ | _ | _ | i <;> first | assumption | omega
  subst e0 e1 e2; rfl
theorem staC_left (x : Sta) {i : Nat} (h : i < 6) : (staC x)[1 + i]? = some (.int .i64 (gz x.left i)) := by
  rcases i with _ | _ | _ | _ | _ | _ | i <;> first | rfl | omega
theorem staC_needs (x : Sta) {i : Nat} (h : i < 6) : (staC x)[7 + i]? = some (.int .i64 (gz x.needs i)) := by
  rcases i with _ | _ | _ | _ | _ | _ | i <;> first | rfl | omega
theorem staC_setL (x : Sta) (h6 : x.left.length = 6) {i : Nat} (h : i < 6) (v : Int) : (staC x).set (1 + i) (.int .i64 v) = staC ⟨x.next, x.left.set i v, x.needs⟩ := by
  obtain ⟨a, b, c⟩ := x
  simp only at h6
  rcases b with _ | ⟨b0, _ | ⟨b1, _ | ⟨b2, _ | ⟨b3, _ | ⟨b4, _ | ⟨b5, _ | ⟨b6, b7⟩⟩⟩⟩⟩⟩⟩ <;> simp at h6
  rcases i with _ | _ | _ | _ | _ | _ | i <;> first | rfl | omega
theorem staC_setN (x : Sta) (h6 : x.needs.length = 6) {i : Nat} (h : i < 6) (v : Int) : (staC x).set (7 + i) (.int .i64 v) = staC ⟨x.next, x.left, x.needs.set i v⟩ := by
  obtain ⟨a, c, b⟩ := x
  simp only at h6
  rcases b with _ | ⟨b0, _ | ⟨b1, _ | ⟨b2, _ | ⟨b3, _ | ⟨b4, _ | ⟨b5, _ | ⟨b6, b7⟩⟩⟩⟩⟩⟩⟩ <;> simp at h6
  rcases i with _ | _ | _ | _ | _ | _ | i <;> first | rfl | omega
theorem staC_setNext (x : Sta) (k : Nat) : (staC x).set 0 (.int .i64 k) = staC ⟨k, x.left, x.needs⟩ := rfl
theorem staC_len (x : Sta) : (staC x).length = 13 := rfl
end Go.Wg
namespace Go.Proofs.Ytbpmfaibcibleaa
open Go.RowKit Go.Bs Go.Wg Go.Pl Go.Sort
theorem kt146 : Try.prog.keyType 146 = true := by kernel_rfl
theorem tsz : Try.prog.types.size = 200 := by kernel_rfl
theorem co146 : Try.prog.cellsOf 146 = 13 := by kernel_rfl
theorem co144 : Try.prog.cellsOf 144 = 6 := by kernel_rfl
theorem co3 : Try.prog.cellsOf 3 = 1 := by kernel_rfl
theorem laidOut : laidOutB Try.prog = true := by kernel_rfl
theorem row146 : (146 : TypeId) < Try.prog.types.size := of_decide_eq_true (by kernel_rfl)
theorem kta146 : Try.prog.keyTypeAt 3 146 = true := by kernel_rfl
set_option maxRecDepth 100000 in
theorem law146 : Maps.Keyed Try.prog 146 := by
  have h := @deep_law_laid Try.prog laidOut 3 (by omega) 146 row146 kta146
  rw [Try.underlying146] at h
  exact Maps.Keyed.of_law (h rfl)
theorem zero4 (w : World) : (zeroValue 4).run Try.prog w = .ok (.bool false) w := by kernel_rfl
theorem lits3 (d : Nat) (n : Int) (h : (Lit.int .i64 n).wf = true) : Try.prog.keyLits (d + 1) 3 [.int .i64 n] = some [.int .i64 n] := by
  unfold Program.keyLits
  rw [Try.underlying3]
  simp only [h, and_self, if_true]
theorem lits144 (d : Nat) (a b c e f g : Int) (h1 : (Lit.int .i64 a).wf = true) (h2 : (Lit.int .i64 b).wf = true) (h3 : (Lit.int .i64 c).wf = true) (h4 : (Lit.int .i64 e).wf = true) (h5 : (Lit.int .i64 f).wf = true) (h6 : (Lit.int .i64 g).wf = true) :
    Try.prog.keyLits (d + 1 + 1) 144 [.int .i64 a, .int .i64 b, .int .i64 c, .int .i64 e, .int .i64 f, .int .i64 g] = some [.int .i64 a, .int .i64 b, .int .i64 c, .int .i64 e, .int .i64 f, .int .i64 g] := by
  unfold Program.keyLits
  rw [Try.underlying144]
  simp [co144, co3, List.range, List.range.loop, lits3 d a h1, lits3 d b h2, lits3 d c h3, lits3 d e h4, lits3 d f h5, lits3 d g h6]
end Go.Proofs.Ytbpmfaibcibleaa
