/- Weeks, ledgers and tills as plain data. -/
import Derived.Test.YtilkoooahoecfaaSortP
/- Policies and weeks, as plain data. -/
namespace Go.Pu
open Go.Pl

structure Pol where
  least : Int
  part : Int
  most : Int
def Pol.okB (p : Pol) : Bool := decide (0 ≤ p.least ∧ p.least ≤ 1000000000000) && (decide (0 ≤ p.part ∧ p.part ≤ 1000) && decide (0 ≤ p.most ∧ p.most ≤ 1000000000000))
def Pol.due (p : Pol) (n : Int) : Int := max 0 (n - p.least) * p.part / 1000
/-- payments, and what is left -/
def Pol.pays (p : Pol) : Int → List Int → List Int
  | _, [] => []
  | left, n :: l => min left (p.due n) :: p.pays (left - min left (p.due n)) l
def lossB (l : List Int) : Bool := l.all fun n => decide (0 ≤ n ∧ n ≤ 1000000000000)
def claimsR (p : Pol) (l : List Int) : List Int × Int :=
  if p.okB then (if 50 < l.length then ([], 3) else if lossB l then (p.pays p.most l, 0) else ([], 2)) else ([], 1)

structure Cty where
  takings : Int
  num : Int
  den : Int
  tax : Int
  deriving Inhabited
structure Ctr where
  rank : Int
  wage : Int
  share : Int
  deriving Inhabited
structure Wk where
  ctys : List Cty
  premium : Int
  ctrs : List Ctr
def ctyB (c : Cty) : Bool := decide (0 ≤ c.takings ∧ c.takings ≤ 1000000000000) && (decide (1 ≤ c.num ∧ c.num ≤ 1000) && (decide (1 ≤ c.den ∧ c.den ≤ 1000) && decide (0 ≤ c.tax ∧ c.tax ≤ 1000)))
def ctrB (c : Ctr) : Bool := decide (0 ≤ c.rank ∧ c.rank ≤ 100) && (decide (0 ≤ c.wage ∧ c.wage ≤ 1000000000000) && decide (0 ≤ c.share ∧ c.share ≤ 1000))
def Wk.okB (w : Wk) : Bool :=
  decide (1 ≤ w.ctys.length ∧ w.ctys.length ≤ 8) && (w.ctys.all ctyB && (decide (0 ≤ w.premium ∧ w.premium ≤ 1000000000000) && (decide (w.ctrs.length ≤ 20) && (w.ctrs.all ctrB && decide (isum (w.ctrs.map Ctr.share) ≤ 1000)))))
def Cty.gross (c : Cty) : Int := c.takings * c.num / c.den
def Cty.taxes (c : Cty) : Int := (c.gross * c.tax + 999) / 1000
def ctr (w : Wk) (i : Nat) : Ctr := w.ctrs.getD i default
/-- one more is paid: what is left, and what each one gets -/
def payOne (w : Wk) (a : Int × (Nat → Int)) (i : Nat) : Int × (Nat → Int) := (a.1 - min a.1 (ctr w i).wage, upd a.2 i (min a.1 (ctr w i).wage))
def Wk.order (w : Wk) : List Nat := (rankL (fun i => (ctr w i.toNat).rank) w.ctrs.length).map Int.toNat
def Wk.pot (w : Wk) : Int := isum (w.ctys.map Cty.gross) - isum (w.ctys.map Cty.taxes)
def Wk.prem (w : Wk) : Int := min w.pot w.premium
def Wk.paidTo (w : Wk) (k : Nat) : Int × (Nat → Int) := (w.order.take k).foldl (payOne w) (w.pot - w.prem, fun _ => 0)
def Wk.left (w : Wk) : Int := (w.paidTo w.ctrs.length).1
def Wk.paid (w : Wk) : Nat → Int := (w.paidTo w.ctrs.length).2
def Wk.extra (w : Wk) (i : Nat) : Int := w.left * (ctr w i).share / 1000
structure Pay where
  gross : List Int
  taxes : List Int
  premium : Int
  lacks : Int
  paid : List Int
  short : List Int
  extra : List Int
  rest : Int
def Pay.zero : Pay := ⟨[], [], 0, 0, [], [], [], 0⟩
def Wk.settle (w : Wk) : Pay :=
  ⟨w.ctys.map Cty.gross, w.ctys.map Cty.taxes, w.prem, w.premium - w.prem, tab w.ctrs.length w.paid, tab w.ctrs.length (fun i => (ctr w i).wage - w.paid i), tab w.ctrs.length w.extra, w.left - isum (tab w.ctrs.length w.extra)⟩
def settleR (w : Wk) : Pay × Int := if w.okB then (w.settle, 0) else (Pay.zero, 1)
end Go.Pu

/- Ledgers and acts, as plain data. -/
namespace Go.Pu
open Go.Pl

structure Bag where
  window : Int
  sl : Int
  written : Int
  holds : Int
  now : Int
  opened : Bool
  deriving Inhabited, DecidableEq
structure Dif where
  bag : Int
  less : Int
  broken : Bool
  deriving Inhabited, DecidableEq
structure Led where
  windows : List Int
  bags : List Bag
  office : Int
  bank : Int
  begun : Int
  inn : Int
  out : Int
  diffs : List Dif
  deriving Inhabited, DecidableEq
structure Act where
  kind : Int
  window : Int
  bag : Int
  sl : Int
  amount : Int
  written : Int
  deriving Inhabited
def maxM : Int := 1000000000000
def monB (n : Int) : Bool := decide (0 ≤ n ∧ n ≤ 1000000000000)
def sealB (n : Int) : Bool := decide (1 ≤ n ∧ n ≤ 1000000)
def Bag.broken (b : Bag) : Bool := b.now != b.sl
def Bag.has (b : Bag) (s : Int) : Bool := b.sl == s || b.now == s
/-- is a number a sl of any bag but one (-1: of any)? -/
def Led.sealed (l : Led) (s but : Int) : Bool := (List.range l.bags.length).any fun i => decide ((i : Int) ≠ but) && (l.bags.getD i default).has s
def Led.total (l : Led) : Int := l.office + l.bank + isum l.windows + isum (l.bags.map Bag.holds)
def Led.found (l : Led) (i : Int) : Bool := l.diffs.any fun d => d.bag == i
def Led.bagB (l : Led) (i : Nat) : Bool :=
  let b := l.bags.getD i default
  decide (0 ≤ b.window ∧ b.window ≤ (l.windows.length : Int) - 1) && (sealB b.sl && (sealB b.now && (monB b.written && (monB b.holds && (!l.sealed b.sl i && (!l.sealed b.now i &&
    !(b.opened && (b.holds != 0 || (b.broken && !l.found i)))))))))
def Led.difB (l : Led) (d : Dif) : Bool :=
  decide (0 ≤ d.bag ∧ d.bag ≤ (l.bags.length : Int) - 1) && ((l.bags.getD d.bag.toNat default).opened && (decide (-1000000000000 ≤ d.less ∧ d.less ≤ 1000000000000) &&
    (decide (d.broken = (l.bags.getD d.bag.toNat default).broken) && !(d.less == 0 && !d.broken))))
/-- no bag has two differences -/
def oneB : List Dif → Bool
  | [] => true
  | d :: r => !(r.any fun e => e.bag == d.bag) && oneB r
def Led.okB (l : Led) : Bool :=
  decide ((1 ≤ l.windows.length ∧ l.windows.length ≤ 10) ∧ l.bags.length ≤ 100) && (l.windows.all monB && ([l.office, l.bank, l.begun, l.inn, l.out].all monB &&
    ((List.range l.bags.length).all l.bagB && (l.diffs.all l.difB && (oneB l.diffs && decide (l.total = l.begun + l.inn - l.out))))))
def Led.zero : Led := ⟨[], [], 0, 0, 0, 0, 0, []⟩
/-- what is missing of a window's bags -/
def Led.missing (l : Led) (w : Int) : Int × Int :=
  (isum ((l.diffs.filter fun d => (l.bags.getD d.bag.toNat default).window == w).map Dif.less), (l.diffs.filter fun d => (l.bags.getD d.bag.toNat default).window == w).length)
def Led.addW (l : Led) (w d : Int) : Led := { l with windows := l.windows.set w.toNat (l.windows.getD w.toNat 0 + d) }
def Led.win (l : Led) (w : Int) : Int := l.windows.getD w.toNat 0
def Led.winB (l : Led) (w : Int) : Bool := decide (0 ≤ w ∧ w ≤ (l.windows.length : Int) - 1)
def Led.bgB (l : Led) (w : Int) : Bool := decide (0 ≤ w ∧ w ≤ (l.bags.length : Int) - 1)
def Act.amB (a : Act) : Bool := decide (1 ≤ a.amount ∧ a.amount ≤ 1000000000000)
def Led.setBag (l : Led) (i : Int) (b : Bag) : Led := { l with bags := l.bags.set i.toNat b }
def Led.bg (l : Led) (i : Int) : Bag := l.bags.getD i.toNat default
/-- a valid ledger behind an act, and the error: then it is zero -/
def doL (l : Led) (a : Act) : Led × Int :=
  if a.kind = 1 then
    (if !l.winB a.window || !a.amB then (Led.zero, 2) else if l.office < a.amount then (Led.zero, 7) else if 1000000000000 < l.win a.window + a.amount then (Led.zero, 3)
      else ({ l.addW a.window a.amount with office := l.office - a.amount }, 0))
  else if a.kind = 2 then
    (if !l.winB a.window || !a.amB then (Led.zero, 2) else if 1000000000000 < l.win a.window + a.amount then (Led.zero, 3) else if 1000000000000 < l.inn + a.amount then (Led.zero, 3)
      else ({ l.addW a.window a.amount with inn := l.inn + a.amount }, 0))
  else if a.kind = 3 then
    (if !l.winB a.window || !a.amB then (Led.zero, 2) else if l.win a.window < a.amount then (Led.zero, 7) else if 1000000000000 < l.out + a.amount then (Led.zero, 3)
      else ({ l.addW a.window (-a.amount) with out := l.out + a.amount }, 0))
  else if a.kind = 4 then
    (if !l.winB a.window || (!sealB a.sl || (!a.amB || !monB a.written)) then (Led.zero, 2) else if 100 ≤ l.bags.length then (Led.zero, 3) else if l.sealed a.sl (-1) then (Led.zero, 6)
      else if l.win a.window < a.amount then (Led.zero, 7)
      else ({ l.addW a.window (-a.amount) with bags := l.bags ++ [⟨a.window, a.sl, a.written, a.amount, a.sl, false⟩] }, 0))
  else if a.kind = 5 then
    (if !l.bgB a.bag || (!sealB a.sl || !monB a.amount) then (Led.zero, 2) else if (l.bg a.bag).opened then (Led.zero, 8) else if l.sealed a.sl (-1) then (Led.zero, 6)
      else if (l.bg a.bag).holds < a.amount then (Led.zero, 7) else if 1000000000000 < l.out + a.amount then (Led.zero, 3)
      else ({ l.setBag a.bag { l.bg a.bag with holds := (l.bg a.bag).holds - a.amount, now := a.sl } with out := l.out + a.amount }, 0))
  else if a.kind = 6 then
    (if !l.bgB a.bag then (Led.zero, 2) else if (l.bg a.bag).opened then (Led.zero, 8) else if 1000000000000 < l.office + (l.bg a.bag).holds then (Led.zero, 3)
      else ({ l.setBag a.bag { l.bg a.bag with holds := 0, opened := true } with
        office := l.office + (l.bg a.bag).holds
        diffs := if (l.bg a.bag).holds != (l.bg a.bag).written || (l.bg a.bag).broken then l.diffs ++ [⟨a.bag, (l.bg a.bag).written - (l.bg a.bag).holds, (l.bg a.bag).broken⟩] else l.diffs }, 0))
  else if a.kind = 7 then
    (if !a.amB then (Led.zero, 2) else if l.office < a.amount then (Led.zero, 7) else if 1000000000000 < l.bank + a.amount then (Led.zero, 3) else ({ l with office := l.office - a.amount, bank := l.bank + a.amount }, 0))
  else if a.kind = 8 then
    (if !a.amB then (Led.zero, 2) else if l.bank < a.amount then (Led.zero, 7) else if 1000000000000 < l.out + a.amount then (Led.zero, 3) else ({ l with bank := l.bank - a.amount, out := l.out + a.amount }, 0))
  else (Led.zero, 1)
/-- behind acts, and the errors -/
def runL : Led → List Act → Led × List Int
  | l, [] => (l, [])
  | l, a :: r =>
    let (n, e) := doL l a
    let (m, es) := runL (if e = 0 then n else l) r
    (m, e :: es)
/-- a first ledger -/
def beginL (windows : List Int) (office : Int) : Led × Int :=
  let l : Led := ⟨windows, [], office, 0, 0, 0, 0, []⟩
  if !(decide (1 ≤ windows.length ∧ windows.length ≤ 10) && (windows.all monB && monB office)) then (Led.zero, 2)
  else if !monB l.total then (Led.zero, 2) else ({ l with begun := l.total }, 0)
end Go.Pu

/- Tills, as plain data. -/
namespace Go.Pu
open Go.Pl

structure Tl where
  vals : List Int
  cnts : List Int
def fallsB : Int → List Int → Bool
  | _, [] => true
  | last, n :: l => decide (1 ≤ n ∧ n < last) && fallsB n l
def Tl.okB (t : Tl) : Bool := decide ((1 ≤ t.vals.length ∧ t.vals.length ≤ 8) ∧ t.cnts.length = t.vals.length) && (fallsB 1001 t.vals && t.cnts.all fun c => decide (0 ≤ c ∧ c ≤ 50))
theorem falls_iff : ∀ (l : List Int) (last : Int), fallsB last l = true ↔ (∀ i (h : i < l.length), 1 ≤ l[i]) ∧ (∀ i (h : i < l.length), l[i] < if i = 0 then last else l.getD (i - 1) 0)
  | [], last => by simp [fallsB]
  | n :: l, last => by
    unfold fallsB
    rw [Bool.and_eq_true, decide_eq_true_eq, falls_iff l n]
    constructor
    · rintro ⟨⟨h1, h2⟩, h3, h4⟩
      refine ⟨fun i h => ?_, fun i h => ?_⟩
      · cases i with
        | zero => exact h1
        | succ i => exact h3 i (by simpa using h)
      · cases i with
        | zero => exact h2
        | succ i =>
          have := h4 i (by simpa using h)
          rw [if_neg (Nat.succ_ne_zero i), Nat.add_sub_cancel]
          cases i with
          | zero => simpa using this
          | succ i => simpa using this
    · rintro ⟨h1, h2⟩
      refine ⟨⟨h1 0 (by simp), h2 0 (by simp)⟩, fun i h => h1 (i + 1) (by simpa using h), fun i h => ?_⟩
      have := h2 (i + 1) (by simpa using h)
      rw [if_neg (Nat.succ_ne_zero i), Nat.add_sub_cancel] at this
      cases i with
      | zero => simpa using this
      | succ i => simpa using this
structure Tl.ok (t : Tl) : Prop where
  len : 1 ≤ t.vals.length ∧ t.vals.length ≤ 8
  eq : t.cnts.length = t.vals.length
  rng : ∀ i (h : i < t.vals.length), 1 ≤ t.vals[i] ∧ t.vals[i] ≤ 1000
  fal : ∀ i (h : i + 1 < t.vals.length), t.vals[i + 1] < t.vals[i]
  cnt : ∀ c ∈ t.cnts, 0 ≤ c ∧ c ≤ 50
theorem falls_ok {l : List Int} : fallsB 1001 l = true ↔ (∀ i (h : i < l.length), 1 ≤ l[i] ∧ l[i] ≤ 1000) ∧ ∀ i (h : i + 1 < l.length), l[i + 1] < l[i] := by
  rw [falls_iff]
  constructor
  · rintro ⟨h1, h2⟩
    have h3 : ∀ i (h : i + 1 < l.length), l[i + 1] < l[i] := fun i h => by
      have := h2 (i + 1) h
      rw [if_neg (Nat.succ_ne_zero i), Nat.add_sub_cancel] at this
      simpa [show i < l.length by omega] using this
    refine ⟨fun i => ?_, h3⟩
    induction i with
    | zero => intro h; have a := h1 0 h; have b := h2 0 h; simp only [if_true] at b; omega
    | succ i ih => intro h; have a := h1 (i + 1) h; have b := h3 i h; have c := ih (by omega); omega
  · rintro ⟨h1, h2⟩
    refine ⟨fun i h => (h1 i h).1, fun i h => ?_⟩
    by_cases h0 : i = 0
    · subst h0; rw [if_pos rfl]; have := (h1 0 h).2; omega
    · rw [if_neg h0]
      obtain ⟨j, rfl⟩ : ∃ j, i = j + 1 := ⟨i - 1, by omega⟩
      have := h2 j h
      simpa [show j < l.length by omega] using this
theorem Tl.okB_iff (t : Tl) : t.okB = true ↔ t.ok := by
  unfold Tl.okB
  rw [Bool.and_eq_true, Bool.and_eq_true, decide_eq_true_eq, falls_ok, List.all_eq_true]
  constructor
  · rintro ⟨⟨h1, h2⟩, ⟨h3, h4⟩, h5⟩
    exact ⟨h1, h2, h3, h4, fun c hc => of_decide_eq_true (h5 c hc)⟩
  · intro h
    exact ⟨⟨h.len, h.eq⟩, ⟨h.rng, h.fal⟩, fun c hc => decide_eq_true (h.cnt c hc)⟩

def Tl.v (t : Tl) (i : Nat) : Nat := (t.vals.getD i 0).toNat
def Tl.c (t : Tl) (i : Nat) : Nat := (t.cnts.getD i 0).toNat
section
variable {t : Tl}
theorem Tl.ok.v_eq (h : t.ok) {i : Nat} (hi : i < t.vals.length) : t.vals[i] = (t.v i : Int) := by
  have := h.rng i hi
  unfold Tl.v
  simp [hi]; omega
theorem Tl.ok.v_bd (h : t.ok) {i : Nat} (hi : i < t.vals.length) : 1 ≤ t.v i ∧ t.v i ≤ 1000 := by
  have := h.rng i hi
  have := h.v_eq hi
  omega
theorem Tl.ok.c_eq (h : t.ok) {i : Nat} (hi : i < t.vals.length) : t.cnts[i]'(by rw [h.eq]; exact hi) = (t.c i : Int) := by
  have hi' : i < t.cnts.length := by rw [h.eq]; exact hi
  have := h.cnt _ (List.getElem_mem hi')
  unfold Tl.c
  simp [hi']; omega
theorem Tl.ok.c_bd (h : t.ok) {i : Nat} (hi : i < t.vals.length) : t.c i ≤ 50 := by
  have hi' : i < t.cnts.length := by rw [h.eq]; exact hi
  have := h.cnt _ (List.getElem_mem hi')
  have := h.c_eq hi
  omega
theorem Tl.ok.v_fal (h : t.ok) {i : Nat} (hi : i + 1 < t.vals.length) : t.v (i + 1) < t.v i := by
  have := h.fal i hi
  have := h.v_eq hi
  have := h.v_eq (show i < t.vals.length by omega)
  omega

/-- the least of the first k ways to take pieces of a kind -/
def bestN (f : Nat → Int) (v a : Nat) : Nat → Int
  | 0 => 401
  | n + 1 => min (bestN f v a n) (f (a - n * v) + n)
theorem bestN_le (f : Nat → Int) (v a : Nat) : ∀ k, bestN f v a k ≤ 401 ∧ ∀ n, n < k → bestN f v a k ≤ f (a - n * v) + n
  | 0 => ⟨Int.le_refl _, fun n h => by omega⟩
  | k + 1 => by
    obtain ⟨h1, h2⟩ := bestN_le f v a k
    unfold bestN
    refine ⟨by omega, fun n h => ?_⟩
    by_cases e : n = k
    · subst e; omega
    · have := h2 n (by omega); omega
theorem bestN_hit (f : Nat → Int) (v a : Nat) : ∀ k, bestN f v a k = 401 ∨ ∃ n, n < k ∧ bestN f v a k = f (a - n * v) + n
  | 0 => .inl rfl
  | k + 1 => by
    unfold bestN
    rcases bestN_hit f v a k with h | ⟨n, hn, h⟩
    · by_cases hk : f (a - k * v) + k ≤ 401
      · exact .inr ⟨k, by omega, by rw [h]; omega⟩
      · exact .inl (by rw [h]; omega)
    · by_cases hk : f (a - k * v) + k ≤ bestN f v a k
      · exact .inr ⟨k, by omega, by omega⟩
      · exact .inr ⟨n, by omega, by omega⟩
/-- how many ways there are to take pieces of kind i for an amount -/
def Tl.ways (t : Tl) (i a : Nat) : Nat := min (t.c i) (a / t.v i) + 1
/-- the fewest pieces of the last m kinds -/
def Tl.few (t : Tl) : Nat → Nat → Int
  | 0, a => if a = 0 then 0 else 401
  | m + 1, a => bestN (t.few m) (t.v (t.vals.length - 1 - m)) a (t.ways (t.vals.length - 1 - m) a)
/-- row i of the tables -/
def Tl.row (t : Tl) (i a : Nat) : Int := t.few (t.vals.length - i) a
theorem Tl.row_end (t : Tl) (a : Nat) : t.row t.vals.length a = if a = 0 then 0 else 401 := by unfold Tl.row; rw [Nat.sub_self]; rfl
theorem Tl.row_eq (t : Tl) {i : Nat} (hi : i < t.vals.length) (a : Nat) : t.row i a = bestN (t.row (i + 1)) (t.v i) a (t.ways i a) := by
  unfold Tl.row
  rw [show t.vals.length - i = (t.vals.length - (i + 1)) + 1 by omega]
  show bestN _ (t.v (t.vals.length - 1 - (t.vals.length - (i + 1)))) a (t.ways (t.vals.length - 1 - (t.vals.length - (i + 1))) a) = _
  rw [show t.vals.length - 1 - (t.vals.length - (i + 1)) = i by omega]
theorem Tl.few_bd (h : t.ok) : ∀ m, m ≤ t.vals.length → ∀ a, 0 ≤ t.few m a ∧ (t.few m a ≤ 50 * m ∨ t.few m a = 401)
  | 0, _, a => by unfold Tl.few; split <;> omega
  | m + 1, hm, a => by
    have ih := few_bd h m (by omega)
    unfold Tl.few
    rcases bestN_hit (t.few m) (t.v (t.vals.length - 1 - m)) a (t.ways (t.vals.length - 1 - m) a) with e | ⟨n, hn, e⟩
    · rw [e]; omega
    · have hb := (bestN_le (t.few m) (t.v (t.vals.length - 1 - m)) a (t.ways (t.vals.length - 1 - m) a)).1
      have hc := h.c_bd (i := t.vals.length - 1 - m) (by omega)
      have := ih (a - n * t.v (t.vals.length - 1 - m))
      unfold Tl.ways at hn
      rw [e] at hb ⊢
      omega
theorem Tl.row_bd (h : t.ok) (i a : Nat) : 0 ≤ t.row i a ∧ t.row i a ≤ 401 := by
  have := Tl.few_bd h (t.vals.length - i) (by omega) a
  have := h.len
  unfold Tl.row
  omega
/-- the way that the program goes down -/
def downN (p : Nat → Bool) : Nat → Nat
  | 0 => 0
  | n + 1 => if p (n + 1) then n + 1 else downN p n
theorem downN_spec (p : Nat → Bool) : ∀ N k, k ≤ N → p k = true → k ≤ downN p N ∧ downN p N ≤ N ∧ p (downN p N) = true ∧ ∀ j, downN p N < j → j ≤ N → p j = false
  | 0, k, hk, hp => by
    obtain rfl : k = 0 := by omega
    exact ⟨Nat.le_refl _, Nat.le_refl _, hp, fun j h1 h2 => by omega⟩
  | N + 1, k, hk, hp => by
    unfold downN
    by_cases h : p (N + 1) = true
    · rw [if_pos h]
      exact ⟨hk, Nat.le_refl _, h, fun j h1 h2 => by omega⟩
    · rw [if_neg h]
      have hk' : k ≤ N := by
        rcases Nat.lt_or_ge N k with h1 | h1
        · obtain rfl : k = N + 1 := by omega
          exact absurd hp h
        · exact h1
      obtain ⟨a, b, c, d⟩ := downN_spec p N k hk' hp
      refine ⟨a, by omega, c, fun j h1 h2 => ?_⟩
      by_cases e : j = N + 1
      · subst e; simpa using h
      · exact d j h1 (by omega)
def Tl.fits (t : Tl) (i a : Nat) (left : Int) (n : Nat) : Bool := t.row (i + 1) (a - n * t.v i) == left - n
def Tl.take (t : Tl) (i a : Nat) (left : Int) : Nat := downN (t.fits i a left) (min (t.c i) (a / t.v i))
/-- the pieces of the last m kinds -/
def Tl.chg (t : Tl) : Nat → Nat → Int → List Nat
  | 0, _, _ => []
  | m + 1, a, left =>
    let i := t.vals.length - 1 - m
    let n := t.take i a left
    n :: t.chg m (a - n * t.v i) (left - n)
/-- what Change hands back -/
def changeR (t : Tl) (amount : Int) : List Nat × Int :=
  if t.okB then (if 0 ≤ amount ∧ amount ≤ 5000 then (if t.row 0 amount.toNat = 401 then ([], 7) else (t.chg t.vals.length amount.toNat (t.row 0 amount.toNat), 0)) else ([], 2)) else ([], 1)
theorem Tl.take_spec (h : t.ok) {i a : Nat} (hi : i < t.vals.length) (hne : t.row i a ≠ 401) :
    t.take i a (t.row i a) ≤ t.c i ∧ t.take i a (t.row i a) * t.v i ≤ a ∧ t.row (i + 1) (a - t.take i a (t.row i a) * t.v i) = t.row i a - t.take i a (t.row i a) := by
  have hv := h.v_bd hi
  rw [t.row_eq hi] at hne
  rcases bestN_hit (t.row (i + 1)) (t.v i) a (t.ways i a) with e | ⟨n, hn, e⟩
  · exact absurd e hne
  · have hN : n ≤ min (t.c i) (a / t.v i) := by unfold Tl.ways at hn; omega
    have hp : t.fits i a (t.row i a) n = true := by
      unfold Tl.fits
      rw [t.row_eq hi, e]
      simp
    obtain ⟨-, h2, h3, -⟩ := downN_spec (t.fits i a (t.row i a)) _ n hN hp
    have h4 : t.take i a (t.row i a) ≤ min (t.c i) (a / t.v i) := h2
    refine ⟨by omega, ?_, ?_⟩
    · have h5 : t.take i a (t.row i a) ≤ a / t.v i := by omega
      exact Nat.le_trans (Nat.mul_le_mul_right _ h5) (Nat.div_mul_le_self a _)
    · have h6 : (t.row (i + 1) (a - t.take i a (t.row i a) * t.v i) == t.row i a - (t.take i a (t.row i a) : Nat)) = true := h3
      simpa using h6
end
end Go.Pu

/- Tills by the reference's words; gaps: as plain data. -/
namespace Go.Pu
open Go.Pl

/-- the reference's way to write 'it cannot be given' -/
def encF (x : Int) : Int := if x = 401 then -1 else x
def refN (g : Nat → Int) (v a : Nat) : Nat → Int
  | 0 => -1
  | n + 1 => if 0 ≤ g (a - n * v) ∧ (refN g v a n < 0 ∨ g (a - n * v) + n < refN g v a n) then g (a - n * v) + n else refN g v a n
theorem bestN_nonneg {f : Nat → Int} (hf : ∀ b, 0 ≤ f b) (v a : Nat) : ∀ k, 0 ≤ bestN f v a k
  | 0 => by unfold bestN; omega
  | k + 1 => by have := bestN_nonneg hf v a k; have := hf (a - k * v); unfold bestN; omega
theorem refN_eq {f g : Nat → Int} (v a : Nat) (hg : ∀ b, g b = encF (f b)) (h0 : ∀ b, 0 ≤ f b) : ∀ k, (∀ n : Nat, n < k → ∀ b, f b = 401 ∨ f b + n < 401) → refN g v a k = encF (bestN f v a k)
  | 0, _ => by simp [refN, bestN, encF]
  | k + 1, h => by
    have ih := refN_eq v a hg h0 k (fun n hn => h n (by omega))
    have h1 := h k (by omega) (a - k * v)
    have h2 := h0 (a - k * v)
    have h3 := bestN_nonneg h0 v a k
    have h4 := (bestN_le f v a k).1
    unfold refN bestN
    rw [ih, hg]
    unfold encF
    by_cases e1 : f (a - k * v) = 401
    · rw [if_pos e1, if_neg (by omega)]
      by_cases e2 : bestN f v a k = 401
      · rw [if_pos e2, if_pos (by omega)]
      · rw [if_neg e2, if_neg (by omega)]; omega
    · rw [if_neg e1]
      by_cases e2 : bestN f v a k = 401
      · rw [if_pos e2, if_pos ⟨h2, by omega⟩, if_neg (by omega)]; omega
      · rw [if_neg e2]
        by_cases e3 : f (a - k * v) + k < bestN f v a k
        · rw [if_pos ⟨h2, .inr e3⟩, if_neg (by omega)]; omega
        · rw [if_neg (by omega), if_neg (by omega)]; omega
section
variable {t : Tl}
/-- all that the last kinds can give is worth no more than so many pieces of the dearest -/
theorem Tl.row_worth (h : t.ok) : ∀ (m i : Nat), i + m = t.vals.length → ∀ a, t.row i a ≠ 401 → ∀ V, (∀ j, i ≤ j → j < t.vals.length → t.v j ≤ V) → (a : Int) ≤ t.row i a * V
  | 0, i, hi, a, hne, V, _ => by
    obtain rfl : i = t.vals.length := by omega
    rw [t.row_end] at hne ⊢
    split at hne
    · rename_i e; subst e; simp
    · exact absurd rfl hne
  | m + 1, i, hi, a, hne, V, hV => by
    have hil : i < t.vals.length := by omega
    have hr := t.row_eq hil a
    rcases bestN_hit (t.row (i + 1)) (t.v i) a (t.ways i a) with e | ⟨n, hn, e⟩
    · exact absurd (hr.trans e) hne
    · rw [hr] at hne ⊢
      have hb := Tl.row_bd h (i + 1) (a - n * t.v i)
      rw [e] at hne ⊢
      have hb2 := (bestN_le (t.row (i + 1)) (t.v i) a (t.ways i a)).1
      rw [e] at hb2
      have hv := h.v_bd hil
      have hna : n * t.v i ≤ a := by
        have h5 : n ≤ a / t.v i := by unfold Tl.ways at hn; omega
        exact Nat.le_trans (Nat.mul_le_mul_right _ h5) (Nat.div_mul_le_self a _)
      by_cases e4 : t.row (i + 1) (a - n * t.v i) = 401
      · have : n = 0 := by omega
        subst this
        rw [e4] at hne
        exact absurd rfl hne
      · have ih := Tl.row_worth h m (i + 1) (by omega) _ e4 V (fun j h1 h2 => hV j (by omega) h2)
        have h6 := hV i (Nat.le_refl _) hil
        have h7 : (n : Int) * t.v i ≤ n * V := Int.mul_le_mul_of_nonneg_left (by omega) (by omega)
        rw [Int.add_mul]
        have h8 : ((a - n * t.v i : Nat) : Int) = (a : Int) - (n : Int) * t.v i := by rw [Int.natCast_sub hna, Int.natCast_mul]
        omega
theorem Tl.v_mono (h : t.ok) {i : Nat} : ∀ (k : Nat), i + k < t.vals.length → t.v (i + k) ≤ t.v i
  | 0, _ => Nat.le_refl _
  | k + 1, hk => by
    have := Tl.v_mono h (i := i) k (by omega)
    have h2 := h.v_fal (i := i + k) hk
    rw [show i + (k + 1) = i + k + 1 by omega]
    omega
/-- the reference's test is the program's -/
theorem Tl.fits_ref (h : t.ok) {i a : Nat} (hi : i < t.vals.length) (hne : t.row i a ≠ 401) {n : Nat} (hn : n * t.v i ≤ a) :
    (encF (t.row (i + 1) (a - n * t.v i)) = t.row i a - n) ↔ t.fits i a (t.row i a) n = true := by
  have hw := Tl.row_worth h (t.vals.length - i) i (by omega) a hne (t.v i) (fun j h1 h2 => by
    have := Tl.v_mono h (i := i) (j - i) (by omega)
    rwa [show i + (j - i) = j by omega] at this)
  have hb := Tl.row_bd h i a
  have hv := h.v_bd hi
  have hnl : (n : Int) ≤ t.row i a := by
    rcases Int.lt_or_le (t.row i a) n with h1 | h1
    · exfalso
      have h2 : (t.row i a + 1) * (t.v i : Int) ≤ (n : Int) * t.v i := Int.mul_le_mul_of_nonneg_right (by omega) (by omega)
      rw [Int.add_mul] at h2
      have h3 : (n : Int) * t.v i ≤ a := by exact_mod_cast hn
      omega
    · exact h1
  unfold Tl.fits encF
  rw [beq_iff_eq]
  split
  · rename_i e; rw [e]; omega
  · exact Iff.rfl
/-- from where on the reference goes down -/
theorem downN_more (p : Nat → Bool) (M : Nat) : ∀ N, M ≤ N → (∀ j, M < j → j ≤ N → p j = false) → downN p N = downN p M
  | 0, h, _ => by obtain rfl : M = 0 := by omega
                  rfl
  | N + 1, h, hp => by
    by_cases e : M = N + 1
    · subst e; rfl
    · rw [show downN p (N + 1) = if p (N + 1) then N + 1 else downN p N from rfl, hp (N + 1) (by omega) (Nat.le_refl _)]
      exact downN_more p M N (by omega) (fun j h1 h2 => hp j h1 (by omega))

/-- can an amount be given by pieces of some kinds? -/
def rep : List (Nat × Nat) → Nat → Prop
  | [], a => a = 0
  | (v, c) :: r, a => ∃ n, n ≤ c ∧ n * v ≤ a ∧ rep r (a - n * v)
end
end Go.Pu
