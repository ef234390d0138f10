/- Buying, as plain data: the two rows that the program fills from the end. -/
import Derived.Test.YtopfhinnamhoiaaSpec
namespace Go.Yd
open Go.Pl
/-- the least cost of a purchase on day t that feeds the days up to s or more -/
def Rd.scan (r : Rd) (t : Nat) (f : Nat → Int) : Nat → Nat → Int → Int
  | 0, _, acc => acc
  | m + 1, s, acc => if r.feeds t s then r.scan t f m (s + 1) (min acc (r.price t s + f s)) else acc
def Rd.fromAt (r : Rd) (t : Nat) (f : Nat → Int) : Int := if (r.day t).opn then r.scan t f (r.days.length - t) (t + 1) 1000000000 else 1000000000
def Rd.tabAt (r : Rd) (t : Nat) (v : Int) (g : Nat → Int) : Int := if (r.day t).need = 0 then min v (g (t + 1)) else v
/-- the rows when m days are done, from the end -/
def Rd.rows (r : Rd) : Nat → (Nat → Int) × (Nat → Int)
  | 0 => (fun _ => 0, fun _ => 0)
  | m + 1 =>
    let t := r.days.length - 1 - m
    (upd (r.rows m).1 t (r.fromAt t (r.rows m).1), upd (r.rows m).2 t (r.tabAt t (r.fromAt t (r.rows m).1) (r.rows m).2))
def Rd.frm (r : Rd) : Nat → Int := (r.rows r.days.length).1
def Rd.tbl (r : Rd) : Nat → Int := (r.rows r.days.length).2
theorem Rd.price_nonneg {r : Rd} (h : r.ok) {i : Nat} (hi : i < r.days.length) (j : Nat) : 0 ≤ r.price i j ∧ r.price i j ≤ 300100000 := by
  have h1 := r.day_ok h hi
  have h2 := r.need_bd h i j
  have h3 := mul_bd h1.2.1.1 h1.2.1.2 h2.1 h2.2
  have h4 := h1.2.2
  unfold Rd.price
  omega
theorem Rd.scan_bd {r : Rd} (h : r.ok) {t : Nat} (ht : t < r.days.length) {f : Nat → Int} (hf : ∀ i, 0 ≤ f i ∧ f i ≤ 1000000000) :
    ∀ (m s : Nat) (acc : Int), 0 ≤ acc → acc ≤ 1000000000 → 0 ≤ r.scan t f m s acc ∧ r.scan t f m s acc ≤ 1000000000
  | 0, s, acc, h0, h1 => ⟨h0, h1⟩
  | m + 1, s, acc, h0, h1 => by
    unfold Rd.scan
    split
    · have := r.price_nonneg h ht s
      have := hf s
      exact r.scan_bd h ht hf m (s + 1) _ (by omega) (by omega)
    · exact ⟨h0, h1⟩
theorem Rd.fromAt_bd {r : Rd} (h : r.ok) {t : Nat} (ht : t < r.days.length) {f : Nat → Int} (hf : ∀ i, 0 ≤ f i ∧ f i ≤ 1000000000) : 0 ≤ r.fromAt t f ∧ r.fromAt t f ≤ 1000000000 := by
  unfold Rd.fromAt
  split
  · exact r.scan_bd h ht hf _ _ _ (by omega) (by omega)
  · omega
theorem upd_bd {f : Nat → Int} {k : Nat} {v M : Int} (hf : ∀ i, 0 ≤ f i ∧ f i ≤ M) (hv : 0 ≤ v ∧ v ≤ M) : ∀ i, 0 ≤ upd f k v i ∧ upd f k v i ≤ M := by
  intro i
  unfold upd
  split
  · exact hv
  · exact hf i
theorem Rd.tabAt_bd {r : Rd} {t : Nat} {v : Int} {g : Nat → Int} (hv : 0 ≤ v ∧ v ≤ 1000000000) (hg : ∀ i, 0 ≤ g i ∧ g i ≤ 1000000000) : 0 ≤ r.tabAt t v g ∧ r.tabAt t v g ≤ 1000000000 := by
  unfold Rd.tabAt
  have := hg (t + 1)
  split <;> omega
theorem Rd.rows_bd {r : Rd} (h : r.ok) : ∀ m, m ≤ r.days.length → (∀ i, 0 ≤ (r.rows m).1 i ∧ (r.rows m).1 i ≤ 1000000000) ∧ (∀ i, 0 ≤ (r.rows m).2 i ∧ (r.rows m).2 i ≤ 1000000000)
  | 0, _ => ⟨fun _ => by simp [Rd.rows], fun _ => by simp [Rd.rows]⟩
  | m + 1, hm => by
    have ih := Rd.rows_bd h m (by omega)
    have h1 := r.fromAt_bd h (t := r.days.length - 1 - m) (by omega) ih.1
    exact ⟨upd_bd ih.1 h1, upd_bd ih.2 (r.tabAt_bd h1 ih.2)⟩
end Go.Yd
