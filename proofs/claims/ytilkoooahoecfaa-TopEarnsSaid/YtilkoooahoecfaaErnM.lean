/- Two tours of one content earn alike; the law's sums. -/
import Derived.Test.YtilkoooahoecfaaErnQ
import Derived.Test.YtilkoooahoecfaaErnG
namespace Go.Er
open Go.Pl Go.Pu Go.RowKit Go.Bs
theorem TrEq.twE {t t' : TrV} (h : TrEq t t') (i : Int) : Er.twE t' i = Er.twE t i := h.x i.toNat
theorem TrEq.costE {t t' : TrV} (h : TrEq t t') (i k : Int) : Er.costE t' i k = Er.costE t i k := by
  unfold Er.costE
  rw [h.l]
theorem TrEq.tkE {t t' : TrV} (h : TrEq t t') (s : StE) : Er.tkE t' s = Er.tkE t s := by
  unfold Er.tkE
  rw [h.twE]
theorem TrEq.rentE {t t' : TrV} (h : TrEq t t') (s : StE) : Er.rentE t' s = Er.rentE t s := by
  unfold Er.rentE
  rw [h.twE]
theorem TrEq.profE {t t' : TrV} (h : TrEq t t') (l : List StE) : ∀ k, Er.profE t' l k = Er.profE t l k
  | 0 => rfl
  | k + 1 => by
    show Er.profE t' l k + (Er.tkE t' _ - Er.rentE t' _ - Er.costE t' _ _) = Er.profE t l k + (Er.tkE t _ - Er.rentE t _ - Er.costE t _ _)
    rw [h.profE l k, h.tkE, h.rentE, h.costE]
theorem TrEq.netE {t t' : TrV} (h : TrEq t t') (l : List StE) : Er.netE t' l = Er.netE t l := by
  unfold Er.netE
  rw [h.profE, h.costE]
theorem TrEq.season {t t' : TrV} (h : TrEq t t') {l : List StE} (hs : SeasonOk t' l) : SeasonOk t l := fun s hm => by
  have h1 := hs s hm
  have h2 := h.nt
  have h3 := h.days
  exact ⟨by have := h1.town; rw [h2] at this; exact this, h1.fst, by have := h1.lst; rw [h3] at this; exact this, h1.n⟩
/-- n rents -/
def reN (r : Int) : Nat → Int
  | 0 => 0
  | n + 1 => reN r n + r
theorem reN_eq (r : Int) : ∀ n : Nat, reN r n = n * r
  | 0 => by simp [reN]
  | n + 1 => by
    unfold reN
    rw [reN_eq r n, Int.natCast_succ, Int.add_mul, Int.one_mul]
theorem reN_bd {r : Int} (h : 0 ≤ r ∧ r ≤ 1000000) : ∀ n : Nat, 0 ≤ reN r n ∧ reN r n ≤ 1000000 * n
  | 0 => by simp [reN]
  | n + 1 => by
    have := reN_bd h n
    unfold reN
    omega
theorem rent_reN (t : TrV) (s : StE) : rentE t s = reN (Er.twE t s.town).rent (nE s) := (reN_eq _ _).symm
theorem out_succ (t : TrV) (l : List StE) (k : Nat) : outE t l (k + 1) = outE t l k + reN (Er.twE t (l.getD k default).town).rent (nE (l.getD k default)) + Er.costE t (atE l k) (l.getD k default).town := by
  rw [← rent_reN]
  rfl
theorem cty_succ (t : TrV) {l : List StE} {k : Nat} (hk : k < l.length) : (l.take (k + 1)).map (ctyE t) = (l.take k).map (ctyE t) ++ [ctyE t (l.getD k default)] := by
  rw [List.take_succ_eq_append_getElem hk, List.map_append, getD_at l hk]
  rfl
theorem net_bd {t : TrV} {l : List StE} (h : SeasonOk t l) (ht : TrOk t) (h8 : l.length ≤ 8) : -1000000000 ≤ netE t l ∧ netE t l ≤ 1000000000 := by
  have h1 := h.out ht (Nat.le_refl l.length)
  have h2 := h.sum ht (Nat.le_refl l.length)
  have h3 := prof_eq t l l.length
  have h4 := cost_bd ht (h.atE ht (Nat.le_refl l.length)) (k := 0) ⟨by omega, by have := ht.n2; omega⟩
  unfold Er.netE
  omega
end Go.Er
