/- A tour and its stops as plain data, and how they lie in memory. -/
import Derived.Test.YtilkoooahoecfaaTooA
namespace Go.Er
open Go.RowKit Go.Bs Go.Pl
/-- what a predicate of the document tells: where it says true, P holds -/
def Soft (P : Prop) (w : World) (e : Ending) (w' : World) : Prop := ∃ b : Bool, e = .returned (.bool b) ∧ (b = true → P) ∧ Below w.heap.size w w'
theorem Soft.no {P : Prop} {w w' : World} (h : Below w.heap.size w w') : Soft P w (.returned (.bool false)) w' := ⟨false, rfl, by simp, h⟩
theorem Soft.yes {P : Prop} {w w' : World} (h : Below w.heap.size w w') (hP : P) : Soft P w (.returned (.bool true)) w' := ⟨true, rfl, fun _ => hP, h⟩
theorem Soft.of {P : Prop} {w w' : World} {b : Bool} (h : Below w.heap.size w w') (hP : b = true → P) : Soft P w (.returned (.bool b)) w' := ⟨b, rfl, hP, h⟩
structure TwE where
  opn : List (Int × Int)
  slo : Int
  shi : Int
  pay : Int
  lot : Int
  rent : Int
  riv : List (Int × Int)
  cold : Int
  cut : Int
  deriving Inhabited
def encR (x : Int × Int) : List Value := [.int .i64 x.1, .int .i64 x.2]
theorem encR_len (x : Int × Int) : (encR x).length = 2 := rfl
theorem encR_one (x : Int × Int) : ∀ u ∈ encR x, u.oneCell' = true := by
  intro u hu
  simp [encR] at hu
  rcases hu with rfl | rfl <;> rfl
/-- a town, and where its rows lie -/
structure TwV where
  x : TwE
  O : Option Addr
  co : Nat
  R : Option Addr
  cr : Nat
  deriving Inhabited
def TwV.enc (v : TwV) : List Value := [.slice v.O v.x.opn.length v.co, .int .i64 v.x.slo, .int .i64 v.x.shi, .int .i64 v.x.pay, .int .i64 v.x.lot, .int .i64 v.x.rent, .slice v.R v.x.riv.length v.cr, .int .i64 v.x.cold, .int .i64 v.x.cut]
def TwV.val (v : TwV) : Value := .agg #[.slice v.O v.x.opn.length v.co, .int .i64 v.x.slo, .int .i64 v.x.shi, .int .i64 v.x.pay, .int .i64 v.x.lot, .int .i64 v.x.rent, .slice v.R v.x.riv.length v.cr, .int .i64 v.x.cold, .int .i64 v.x.cut]
theorem TwV.len (v : TwV) : v.enc.length = 9 := rfl
theorem TwV.one (v : TwV) : ∀ u ∈ v.enc, u.oneCell' = true := by
  intro u hu
  simp [TwV.enc] at hu
  rcases hu with rfl | rfl | rfl | rfl | rfl | rfl | rfl | rfl | rfl <;> rfl
/-- a row of legs -/
structure LgV where
  l : List (Int × Int)
  A : Option Addr
  c : Nat
  deriving Inhabited
def LgV.enc (v : LgV) : List Value := [.slice v.A v.l.length v.c]
theorem LgV.len (v : LgV) : v.enc.length = 1 := rfl
structure TrV where
  days : Int
  shift : Int
  size : Int
  tw : List TwV
  A : Option Addr
  ca : Nat
  lg : List LgV
  B : Option Addr
  cb : Nat
def TrV.cells (t : TrV) : List Value := [.int .i64 t.days, .int .i64 t.shift, .int .i64 t.size, .slice t.A t.tw.length t.ca, .slice t.B t.lg.length t.cb]
def TrV.val (t : TrV) : Value := .agg #[.int .i64 t.days, .int .i64 t.shift, .int .i64 t.size, .slice t.A t.tw.length t.ca, .slice t.B t.lg.length t.cb]
structure TwM (w : World) (v : TwV) : Prop where
  opn : Cells w v.O 2 encR v.x.opn
  riv : Cells w v.R 2 encR v.x.riv
  no : v.x.opn.length ≤ 9223372036854775807
  nr : v.x.riv.length ≤ 9223372036854775807
structure TrM (w : World) (t : TrV) : Prop where
  tw : Cells w t.A 9 TwV.enc t.tw
  town : ∀ v ∈ t.tw, TwM w v
  lg : Cells w t.B 1 LgV.enc t.lg
  leg : ∀ v ∈ t.lg, Cells w v.A 2 encR v.l ∧ v.l.length ≤ 9223372036854775807
  nt : t.tw.length ≤ 9223372036854775807
  nl : t.lg.length ≤ 9223372036854775807
theorem TwM.ext {w w' : World} {v : TwV} (h : TwM w v) (hb : Below w.heap.size w w') : TwM w' v := ⟨h.opn.ext hb, h.riv.ext hb, h.no, h.nr⟩
theorem TrM.ext {w w' : World} {t : TrV} (h : TrM w t) (hb : Below w.heap.size w w') : TrM w' t :=
  ⟨h.tw.ext hb, fun v hv => (h.town v hv).ext hb, h.lg.ext hb, fun v hv => ⟨(h.leg v hv).1.ext hb, (h.leg v hv).2⟩, h.nt, h.nl⟩
/-- the first k ranges are right -/
def opnOk (l : List (Int × Int)) (days : Int) (k : Nat) : Prop :=
  (∀ i, i < k → 0 ≤ (l.getD i (0, 0)).1 ∧ (l.getD i (0, 0)).1 ≤ (l.getD i (0, 0)).2 ∧ (l.getD i (0, 0)).2 ≤ days - 1) ∧ ∀ i, i + 1 < k → (l.getD i (0, 0)).2 < (l.getD (i + 1) (0, 0)).1
def rivOk (l : List (Int × Int)) (k : Nat) : Prop := ∀ i, i < k → -60 ≤ (l.getD i (0, 0)).1 ∧ (l.getD i (0, 0)).1 ≤ (l.getD i (0, 0)).2 ∧ (l.getD i (0, 0)).2 ≤ 60
/-- a town that is played is right -/
structure TownOk (x : TwE) (days : Int) : Prop where
  n1 : 1 ≤ x.opn.length
  n3 : x.opn.length ≤ 3
  opn : opnOk x.opn days x.opn.length
  stay : 1 ≤ x.slo ∧ x.slo ≤ x.shi ∧ x.shi ≤ 10
  pay : 0 ≤ x.pay ∧ x.pay ≤ 1000000
  lot : 0 ≤ x.lot ∧ x.lot ≤ 100000
  rent : 0 ≤ x.rent ∧ x.rent ≤ 1000000
  r3 : x.riv.length ≤ 3
  riv : rivOk x.riv x.riv.length
  cold : 0 ≤ x.cold ∧ x.cold ≤ 60
  cut : 0 ≤ x.cut ∧ x.cut ≤ 1000
def emptyT (x : TwE) : Prop := x.opn = [] ∧ x.slo = 0 ∧ x.shi = 0 ∧ x.pay = 0 ∧ x.lot = 0 ∧ x.rent = 0 ∧ x.riv = [] ∧ x.cold = 0 ∧ x.cut = 0
structure TrOk (t : TrV) : Prop where
  days : 1 ≤ t.days ∧ t.days ≤ 60
  shift : 1 ≤ t.shift ∧ t.shift ≤ 24
  size : 0 ≤ t.size ∧ t.size ≤ 100000
  n2 : 2 ≤ t.tw.length
  n9 : t.tw.length ≤ 9
  nl : t.lg.length = t.tw.length
  home : emptyT (t.tw.getD 0 default).x
  town : ∀ i, 0 < i → i < t.tw.length → TownOk (t.tw.getD i default).x t.days
  row : ∀ i, i < t.tw.length → (t.lg.getD i default).l.length = t.tw.length
  leg : ∀ i k, i < t.tw.length → k < t.tw.length → 0 ≤ ((t.lg.getD i default).l.getD k (0, 0)).1 ∧ ((t.lg.getD i default).l.getD k (0, 0)).1 ≤ 200 ∧ 0 ≤ ((t.lg.getD i default).l.getD k (0, 0)).2 ∧ ((t.lg.getD i default).l.getD k (0, 0)).2 ≤ 1000000
  diag : ∀ i, i < t.tw.length → (t.lg.getD i default).l.getD i (0, 0) = (0, 0)
structure StE where
  town : Int
  fst : Int
  lst : Int
  deriving Inhabited
def StE.enc (x : StE) : List Value := [.int .i64 x.town, .int .i64 x.fst, .int .i64 x.lst]
theorem StE.len (x : StE) : x.enc.length = 3 := rfl
/-- what a day brings -/
def dayE (x : TwE) (d : Int) : Int := if x.riv.any (fun r => decide (r.1 ≤ d ∧ d ≤ r.2 + x.cold)) then (x.pay * (1000 - x.cut)).tdiv 1000 else x.pay
/-- what n days from d on bring -/
def takeE (x : TwE) (d : Int) : Nat → Int
  | 0 => 0
  | n + 1 => takeE x d n + dayE x (d + n)
theorem dayE_bd {x : TwE} {days : Int} (h : TownOk x days) (d : Int) : 0 ≤ dayE x d ∧ dayE x d ≤ 1000000 := by
  unfold dayE
  have hp := h.pay
  have hc := h.cut
  split
  · have h1 : 0 ≤ x.pay * (1000 - x.cut) := Int.mul_nonneg hp.1 (by omega)
    have h2 : x.pay * (1000 - x.cut) ≤ x.pay * 1000 := Int.mul_le_mul_of_nonneg_left (by omega) hp.1
    rw [Int.tdiv_eq_ediv_of_nonneg h1]
    omega
  · exact hp
theorem takeE_bd {x : TwE} {days : Int} (h : TownOk x days) (d : Int) : ∀ n : Nat, 0 ≤ takeE x d n ∧ takeE x d n ≤ 1000000 * n
  | 0 => by simp [takeE]
  | n + 1 => by
    have h1 := takeE_bd h d n
    have h2 := dayE_bd h (d + n)
    unfold takeE
    omega
end Go.Er
