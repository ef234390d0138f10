/- The road and the diary: data, and the walks of valid, need, price, feeds, buy, plan, Buy, Weary. -/
import Derived.Shelf.Abstract
import Derived.Deep.DeepCutAuto
import Derived.Maps.RangeWalk
import Derived.Test.YtilkoooahoecfaaGround
import Derived.Test.YtilkoooahoecfaaProg
/- The yard as plain data: what the program's functions compute. -/
namespace Go.Yd
open Go.Pl
structure Mkt where
  need : Int
  price : Int
  trip : Int
  opn : Bool
  deriving Inhabited
structure Rd where
  days : List Mkt
  keep : Int
structure Eng where
  most : Int
  idle : Int
  per : Int
  deriving Inhabited
structure Rng where
  lo : Int
  hi : Int
  deriving Inhabited
structure Nd where
  parent : Int
  load : Rng
  fuse : Int
  sag : Int
  deriving Inhabited
structure Gd where
  nodes : List Nd
  limit : Int
structure Yrd where
  boxes : List Int
  needs : List Int
  foes : List (Int × Int)
def Mkt.ok (m : Mkt) : Prop := (0 ≤ m.need ∧ m.need ≤ 10000) ∧ (0 ≤ m.price ∧ m.price ≤ 1000) ∧ (0 ≤ m.trip ∧ m.trip ≤ 100000)
def Rd.ok (r : Rd) : Prop := (1 ≤ r.days.length ∧ r.days.length ≤ 30) ∧ (1 ≤ r.keep ∧ r.keep ≤ 10) ∧ ∀ m ∈ r.days, m.ok
def mktB (m : Mkt) : Bool := decide (0 ≤ m.need ∧ m.need ≤ 10000) && (decide (0 ≤ m.price ∧ m.price ≤ 1000) && decide (0 ≤ m.trip ∧ m.trip ≤ 100000))
def Rd.okB (r : Rd) : Bool := decide ((1 : Int) ≤ r.days.length ∧ (r.days.length : Int) ≤ 30) && (decide (1 ≤ r.keep ∧ r.keep ≤ 10) && r.days.all mktB)
theorem Rd.okB_iff (r : Rd) : r.okB = true ↔ r.ok := by
  simp only [Rd.okB, Rd.ok, Mkt.ok, mktB, Bool.and_eq_true, decide_eq_true_eq, List.all_eq_true]
  constructor
  · rintro ⟨h1, h2, h3⟩; exact ⟨by omega, h2, h3⟩
  · rintro ⟨h1, h2, h3⟩; exact ⟨by omega, h2, h3⟩
/-- what is needed from day i on, before day j -/
def Rd.need (r : Rd) (i j : Nat) : Int := isum (((r.days.drop i).take (j - i)).map Mkt.need)
def Rd.day (r : Rd) (i : Nat) : Mkt := r.days.getD i default
def Rd.price (r : Rd) (i j : Nat) : Int := (r.day i).trip + (r.day i).price * r.need i j
def Rd.feeds (r : Rd) (i j : Nat) : Bool := r.need (min j (i + r.keep.toNat)) j == 0
theorem Rd.need_bd {r : Rd} (h : r.ok) (i j : Nat) : 0 ≤ r.need i j ∧ r.need i j ≤ 300000 := by
  have h1 := isum_map_bd Mkt.need ((r.days.drop i).take (j - i)) 10000 (fun x hx => (h.2.2 x (List.mem_of_mem_drop (List.mem_of_mem_take hx))).1)
  have h2 : ((r.days.drop i).take (j - i)).length ≤ 30 := by simp; have := h.1.2; omega
  unfold Rd.need
  omega
theorem Rd.day_ok {r : Rd} (h : r.ok) {i : Nat} (hi : i < r.days.length) : (r.day i).ok := by
  have h1 : r.day i = r.days[i] := by simp [Rd.day, hi]
  rw [h1]; exact h.2.2 _ (List.getElem_mem _)
theorem Rd.day_get {r : Rd} {i : Nat} (hi : i < r.days.length) : r.days[i] = r.day i := by
  simp [Rd.day, hi]
end Go.Yd

/- How the yard's data lie in memory. -/
namespace Go.Proofs.Ytilkoooahoecfaa.Yd
open Go.RowKit Go.Bs Go.Yd Go.Pl Go.Sort

def Mkt.enc (m : Mkt) : List Value := [.int .i64 m.need, .int .i64 m.price, .int .i64 m.trip, .bool m.opn]
def Mkt.val (m : Mkt) : Value := .agg #[.int .i64 m.need, .int .i64 m.price, .int .i64 m.trip, .bool m.opn]
def Eng.enc (m : Eng) : List Value := [.int .i64 m.most, .int .i64 m.idle, .int .i64 m.per]
def Eng.val (m : Eng) : Value := .agg #[.int .i64 m.most, .int .i64 m.idle, .int .i64 m.per]
def Rng.enc (m : Rng) : List Value := [.int .i64 m.lo, .int .i64 m.hi]
def Rng.val (m : Rng) : Value := .agg #[.int .i64 m.lo, .int .i64 m.hi]
def Nd.enc (m : Nd) : List Value := [.int .i64 m.parent, .int .i64 m.load.lo, .int .i64 m.load.hi, .int .i64 m.fuse, .int .i64 m.sag]
def Nd.val (m : Nd) : Value := .agg #[.int .i64 m.parent, .int .i64 m.load.lo, .int .i64 m.load.hi, .int .i64 m.fuse, .int .i64 m.sag]
def encP (m : Int × Int) : List Value := [.int .i64 m.1, .int .i64 m.2]
def valP (m : Int × Int) : Value := .agg #[.int .i64 m.1, .int .i64 m.2]
theorem sz123 : ∀ w, (sizeOf 118).run Try.prog w = .ok 4 w := fun w => by kernel_rfl
theorem sz3 : ∀ w, (sizeOf 3).run Try.prog w = .ok 1 w := fun w => by kernel_rfl

theorem within_any (n lo hi : Int) (w : World) :
    Calls Try.prog 43 #[.int .i64 n, .int .i64 lo, .int .i64 hi] w fun e w' => e = .returned (.bool (decide (lo ≤ n ∧ n ≤ hi))) ∧ w = w' := by
  generalize hres : decide (lo ≤ n ∧ n ≤ hi) = res
  have Hres := Lib.hid hres
  clear hres
  by_cases h : lo ≤ n
  · go_enter Try.func43, Try.ntmps43
    go_wp2
    go_ret
    exact ⟨ret_congr (bool_congr (by rw [← Hres.out]; simp [h])), rfl⟩
  · go_enter Try.func43, Try.ntmps43
    go_wp2
    go_ret
    exact ⟨ret_congr (bool_congr (by rw [← Hres.out]; simp; omega)), rfl⟩
theorem within_t {n lo hi : Int} (h : lo ≤ n ∧ n ≤ hi) (w : World) :
    Calls Try.prog 43 #[.int .i64 n, .int .i64 lo, .int .i64 hi] w fun e w' => e = .returned (.bool true) ∧ w = w' := by
  have := within_any n lo hi w
  rwa [decide_eq_true h] at this
theorem within_f {n lo hi : Int} (h : ¬ (lo ≤ n ∧ n ≤ hi)) (w : World) :
    Calls Try.prog 43 #[.int .i64 n, .int .i64 lo, .int .i64 hi] w fun e w' => e = .returned (.bool false) ∧ w = w' := by
  have := within_any n lo hi w
  rwa [decide_eq_false h] at this
end Go.Proofs.Ytilkoooahoecfaa.Yd

/- Walks: within; all, slices.ContainsFunc, slices.IndexFunc at each element type. -/
namespace Go.Proofs.Ytilkoooahoecfaa.Yd
open Go.RowKit Go.Bs Go.Yd Go.Pl Go.Sort




set_option maxHeartbeats 800000 in
theorem index_int (g : Nat) (lb : Array Value) (p : (Int) → Bool) (A : Option Addr) (n cap : Nat) (l : List (Int)) (w : World) (eg : Enters Try.prog g) (hn : l.length = n) (hm : n ≤ 9223372036854775807) (hd : Cells w A 1 encI l)
    (hp : PredB Try.prog g lb (Value.int .i64) p w l) :
    Calls Try.prog 120 #[.slice A n cap, .func (.func g) #[] lb] w fun e w' => e = .returned (.int .i64 (idxF p l)) ∧ Below w.heap.size w w' := by
  have Hn := Lib.hid hn
  clear hn
  generalize hres : idxF p l = res
  have Hres := Lib.hid hres
  clear hres
  unfold Enters at eg
  go_enter Try.func120, Try.ntmps120
  go_wp2
  go_loopw [5, 8] (fun _ t wr => ∃ (k : Nat), k ≤ n ∧ t = .int .i64 k ∧ Hid (∀ x ∈ l.take k, p x = false) ∧ Below w.heap.size w wr) (fun _ t _ => n - (intOf t).toNat)
  case atStart => exact ⟨0, by omega, rfl, Lib.hid (by simp), Below.refl _ _⟩
  case round =>
    obtain ⟨k, hk, rfl, Hk, hb⟩ := hrel
    by_cases hlt : k < n
    · have hk1 : k < l.length := by rw [Hn.out]; exact hlt
      obtain ⟨b, off, rfl, hbl, c0⟩ := (hd.ext hb).at1 hk1 rfl
      have hc := hp wr l[k] (List.getElem_mem _) hb
      have hz : (0 : Int) ≤ k := by omega
      cases hq : p l[k]
      · rw [hq] at hc
        have Hq := Lib.hid hq
        have Hc := Lib.hid hc
        clear hc hq hp
        go_wp2_with fail
        refine Hc.out.mono ?_; rintro e w1 ⟨rfl, hb1⟩
        go_wp2
        go_roundw
        case rel => exact ⟨k + 1, by omega, by go_num, Lib.hid (fun x hx => by
          rw [List.take_succ_eq_append_getElem hk1] at hx
          rcases List.mem_append.1 hx with hx | hx
          · exact Hk.out x hx
          · simp at hx; rw [hx]; exact Hq.out), ext_trans hb hb1⟩
        case measure => simp [intOf]; omega
      · rw [hq] at hc
        have Hq := Lib.hid hq
        have Hc := Lib.hid hc
        clear hc hq hp
        go_wp2_with fail
        refine Hc.out.mono ?_; rintro e w1 ⟨rfl, hb1⟩
        go_wp2
        go_ret
        exact ⟨ret_congr (int_congr (by rw [← Hres.out, idxF_hit hk1 Hq.out Hk.out])), ext_trans hb hb1⟩
    · go_wp2
      go_ret
      exact ⟨ret_congr (int_congr (by rw [← Hres.out, idxF_miss (fun x hx => Hk.out x (by rw [List.take_of_length_le (by rw [Hn.out]; omega)]; exact hx))])), hb⟩

theorem contains_int (g : Nat) (lb : Array Value) (p : (Int) → Bool) (A : Option Addr) (n cap : Nat) (l : List (Int)) (w : World) (eg : Enters Try.prog g) (hn : l.length = n) (hm : n ≤ 9223372036854775807) (hd : Cells w A 1 encI l)
    (hp : PredB Try.prog g lb (Value.int .i64) p w l) :
    Calls Try.prog 77 #[.slice A n cap, .func (.func g) #[] lb] w fun e w' => e = .returned (.bool (l.any p)) ∧ Below w.heap.size w w' := by
  have hc := index_int g lb p A n cap l w eg hn hm hd hp
  rw [← idxF_nonneg]
  generalize idxF p l = x at *
  have Hc := Lib.hid hc
  clear hc hp hn hd eg
  go_enter Try.func77, Try.ntmps77
  go_wp2_with fail
  refine Hc.out.mono ?_; rintro e w1 ⟨rfl, hb1⟩
  go_wp2
  go_ret
  exact ⟨rfl, hb1⟩

theorem not_int (g : Nat) (lb : Array Value) (p : (Int) → Bool) (l : List (Int)) (w : World) (B : Nat) (eg : Enters Try.prog g) (hB : w.cell? ⟨B, 0, none⟩ = some (.func (.func g) #[] lb))
    (hp : PredB Try.prog g lb (Value.int .i64) p w l) : PredB Try.prog 78 #[.pointer (some ⟨B, 0, none⟩)] (Value.int .i64) (fun x => !p x) w l := by
  intro W x hx hb
  have hB' := cell_ext hB hb
  have hlt := cell_lt hB'
  unfold Enters at eg
  have hc := hp W x hx hb
  show Calls Try.prog 78 #[.int .i64 x, .pointer (some ⟨B, 0, none⟩)] W fun e w' => e = .returned (.bool (!p x)) ∧ Below W.heap.size W w'
  generalize p x = q at *
  have Hc := Lib.hid hc
  clear hc hp hB
  go_enter Try.func78, Try.ntmps78
  go_wp2_with fail
  refine Hc.out.mono ?_; rintro e w1 ⟨rfl, hb1⟩
  go_wp2
  go_ret
  exact ⟨rfl, hb1⟩

theorem all_int (g : Nat) (lb : Array Value) (p : (Int) → Bool) (A : Option Addr) (n cap : Nat) (l : List (Int)) (w : World) (eg : Enters Try.prog g) (hn : l.length = n) (hm : n ≤ 9223372036854775807) (hd : Cells w A 1 encI l)
    (hp : PredB Try.prog g lb (Value.int .i64) p w l) :
    Calls Try.prog 44 #[.slice A n cap, .func (.func g) #[] lb] w fun e w' => e = .returned (.bool (l.all p)) ∧ Below w.heap.size w w' := by
  have hb0 := ext_alloc w (.cells #[.func (.func g) #[] lb] 105)
  have hc := contains_int 78 #[.pointer (some ⟨w.heap.size, 0, none⟩)] (fun x => !p x) A n cap l _ (enters_of Try.func78 (by kernel_rfl) rfl) hn hm (hd.ext hb0) (not_int g lb p l _ w.heap.size eg (by simp) (hp.later hb0))
  rw [← any_not]
  generalize (l.any fun x => !p x) = q at *
  have Hc := Lib.hid hc
  clear hc hp hn hd eg hb0
  go_enter Try.func44, Try.ntmps44
  go_wp2_with fail
  refine Hc.out.mono ?_; rintro e w1 ⟨rfl, hb1⟩
  go_wp2
  go_ret
  exact ⟨rfl, ext_trans (ext_alloc _ _) hb1⟩

set_option maxHeartbeats 800000 in
theorem index_mkt (g : Nat) (lb : Array Value) (p : (Mkt) → Bool) (A : Option Addr) (n cap : Nat) (l : List (Mkt)) (w : World) (eg : Enters Try.prog g) (hn : l.length = n) (hm : n ≤ 9223372036854775807) (hd : Cells w A 4 Mkt.enc l)
    (hp : PredB Try.prog g lb Mkt.val p w l) :
    Calls Try.prog 153 #[.slice A n cap, .func (.func g) #[] lb] w fun e w' => e = .returned (.int .i64 (idxF p l)) ∧ Below w.heap.size w w' := by
  have Hn := Lib.hid hn
  clear hn
  generalize hres : idxF p l = res
  have Hres := Lib.hid hres
  clear hres
  unfold Enters at eg
  go_enter Try.func153, Try.ntmps153
  go_wp2
  go_loopw [5, 8] (fun _ t wr => ∃ (k : Nat), k ≤ n ∧ t = .int .i64 k ∧ Hid (∀ x ∈ l.take k, p x = false) ∧ Below w.heap.size w wr) (fun _ t _ => n - (intOf t).toNat)
  case atStart => exact ⟨0, by omega, rfl, Lib.hid (by simp), Below.refl _ _⟩
  case round =>
    obtain ⟨k, hk, rfl, Hk, hb⟩ := hrel
    by_cases hlt : k < n
    · have hk1 : k < l.length := by rw [Hn.out]; exact hlt
      obtain ⟨b, off, rfl, hbl, c0, c1, c2, c3⟩ := (hd.ext hb).at4 hk1 rfl
      have hc := hp wr l[k] (List.getElem_mem _) hb
      have hz : (0 : Int) ≤ k := by omega
      cases hq : p l[k]
      · rw [hq] at hc
        have Hq := Lib.hid hq
        have Hc := Lib.hid hc
        clear hc hq hp
        go_wp2_with fail
        refine Hc.out.mono ?_; rintro e w1 ⟨rfl, hb1⟩
        go_wp2
        go_roundw
        case rel => exact ⟨k + 1, by omega, by go_num, Lib.hid (fun x hx => by
          rw [List.take_succ_eq_append_getElem hk1] at hx
          rcases List.mem_append.1 hx with hx | hx
          · exact Hk.out x hx
          · simp at hx; rw [hx]; exact Hq.out), ext_trans hb hb1⟩
        case measure => simp [intOf]; omega
      · rw [hq] at hc
        have Hq := Lib.hid hq
        have Hc := Lib.hid hc
        clear hc hq hp
        go_wp2_with fail
        refine Hc.out.mono ?_; rintro e w1 ⟨rfl, hb1⟩
        go_wp2
        go_ret
        exact ⟨ret_congr (int_congr (by rw [← Hres.out, idxF_hit hk1 Hq.out Hk.out])), ext_trans hb hb1⟩
    · go_wp2
      go_ret
      exact ⟨ret_congr (int_congr (by rw [← Hres.out, idxF_miss (fun x hx => Hk.out x (by rw [List.take_of_length_le (by rw [Hn.out]; omega)]; exact hx))])), hb⟩

theorem contains_mkt (g : Nat) (lb : Array Value) (p : (Mkt) → Bool) (A : Option Addr) (n cap : Nat) (l : List (Mkt)) (w : World) (eg : Enters Try.prog g) (hn : l.length = n) (hm : n ≤ 9223372036854775807) (hd : Cells w A 4 Mkt.enc l)
    (hp : PredB Try.prog g lb Mkt.val p w l) :
    Calls Try.prog 134 #[.slice A n cap, .func (.func g) #[] lb] w fun e w' => e = .returned (.bool (l.any p)) ∧ Below w.heap.size w w' := by
  have hc := index_mkt g lb p A n cap l w eg hn hm hd hp
  rw [← idxF_nonneg]
  generalize idxF p l = x at *
  have Hc := Lib.hid hc
  clear hc hp hn hd eg
  go_enter Try.func134, Try.ntmps134
  go_wp2_with fail
  refine Hc.out.mono ?_; rintro e w1 ⟨rfl, hb1⟩
  go_wp2
  go_ret
  exact ⟨rfl, hb1⟩

theorem not_mkt (g : Nat) (lb : Array Value) (p : (Mkt) → Bool) (l : List (Mkt)) (w : World) (B : Nat) (eg : Enters Try.prog g) (hB : w.cell? ⟨B, 0, none⟩ = some (.func (.func g) #[] lb))
    (hp : PredB Try.prog g lb Mkt.val p w l) : PredB Try.prog 135 #[.pointer (some ⟨B, 0, none⟩)] Mkt.val (fun x => !p x) w l := by
  intro W x hx hb
  have hB' := cell_ext hB hb
  have hlt := cell_lt hB'
  unfold Enters at eg
  have hc := hp _ x hx (ext_trans hb (ext_alloc W (.cells #[.int .i64 x.need, .int .i64 x.price, .int .i64 x.trip, .bool x.opn] 118)))
  show Calls Try.prog 135 #[.agg #[.int .i64 x.need, .int .i64 x.price, .int .i64 x.trip, .bool x.opn], .pointer (some ⟨B, 0, none⟩)] W fun e w' => e = .returned (.bool (!p x)) ∧ Below W.heap.size W w'
  generalize p x = q at *
  have Hc := Lib.hid hc
  clear hc hp hB
  go_enter Try.func135, Try.ntmps135
  go_wp2_with fail
  refine Hc.out.mono ?_; rintro e w1 ⟨rfl, hb1⟩
  go_wp2
  go_ret
  exact ⟨rfl, ext_trans (ext_alloc _ _) hb1⟩

theorem all_mkt (g : Nat) (lb : Array Value) (p : (Mkt) → Bool) (A : Option Addr) (n cap : Nat) (l : List (Mkt)) (w : World) (eg : Enters Try.prog g) (hn : l.length = n) (hm : n ≤ 9223372036854775807) (hd : Cells w A 4 Mkt.enc l)
    (hp : PredB Try.prog g lb Mkt.val p w l) :
    Calls Try.prog 110 #[.slice A n cap, .func (.func g) #[] lb] w fun e w' => e = .returned (.bool (l.all p)) ∧ Below w.heap.size w w' := by
  have hb0 := ext_alloc w (.cells #[.func (.func g) #[] lb] 168)
  have hc := contains_mkt 135 #[.pointer (some ⟨w.heap.size, 0, none⟩)] (fun x => !p x) A n cap l _ (enters_of Try.func135 (by kernel_rfl) rfl) hn hm (hd.ext hb0) (not_mkt g lb p l _ w.heap.size eg (by simp) (hp.later hb0))
  rw [← any_not]
  generalize (l.any fun x => !p x) = q at *
  have Hc := Lib.hid hc
  clear hc hp hn hd eg hb0
  go_enter Try.func110, Try.ntmps110
  go_wp2_with fail
  refine Hc.out.mono ?_; rintro e w1 ⟨rfl, hb1⟩
  go_wp2
  go_ret
  exact ⟨rfl, ext_trans (ext_alloc _ _) hb1⟩

end Go.Proofs.Ytilkoooahoecfaa.Yd

/- Walks: need, until, feeds, price of a road. -/
namespace Go.Proofs.Ytilkoooahoecfaa.Yd
open Go.RowKit Go.Bs Go.Yd Go.Pl Go.Sort

/-- The road's days lie from A on. -/
def RdAt (w : World) (A : Option Addr) (r : Rd) : Prop := Cells w A 4 Mkt.enc r.days
theorem RdAt.ext {w w' : World} {A : Option Addr} {r : Rd} (h : RdAt w A r) (hb : Below w.heap.size w w') : RdAt w' A r := Cells.ext h hb
theorem RdAt.day {w : World} {A : Option Addr} {r : Rd} (h : RdAt w A r) {k : Nat} (hk : k < r.days.length) :
    ∃ b off, A = some ⟨b, off, none⟩ ∧ b < w.heap.size ∧ w.cell? ⟨b, off + k * 4, none⟩ = some (.int .i64 (r.day k).need) ∧ w.cell? ⟨b, off + k * 4 + 1, none⟩ = some (.int .i64 (r.day k).price) ∧ w.cell? ⟨b, off + k * 4 + 2, none⟩ = some (.int .i64 (r.day k).trip) ∧ w.cell? ⟨b, off + k * 4 + 3, none⟩ = some (.bool (r.day k).opn) :=
  Cells.at4 h hk (by rw [Rd.day_get hk]; rfl)

set_option maxHeartbeats 400000 in
theorem need_nat (r : Rd) (A : Option Addr) (n cap : Nat) (keep : Int) (i j : Nat) (w : World) (hok : r.ok) (hn : r.days.length = n) (hcap : n ≤ cap) (hi : i ≤ j) (hj : j ≤ n) (hd : RdAt w A r) :
    Calls Try.prog 114 #[.agg #[.slice A n cap, .int .i64 keep], .int .i64 i, .int .i64 j] w fun e w' => e = .returned (.int .i64 (r.need i j)) ∧ Below w.heap.size w w' := by
  have hcut := fun wx => run_cut2 (P := Try.prog) Try.underlying119 sz123 A n cap i j hi (by omega) wx
  have hd' : Cells w (cutA A 4 cap i) 4 Mkt.enc ((r.days.drop i).take (j - i)) := Cells.cut hd hi (by omega)
  have hmem : ∀ m ∈ (r.days.drop i).take (j - i), 0 ≤ m.need ∧ m.need ≤ 10000 := fun m hm => (hok.2.2 m (List.mem_of_mem_drop (List.mem_of_mem_take hm))).1
  have hl : ((r.days.drop i).take (j - i)).length = j - i := by simp; omega
  have hle : j - i ≤ 30 := by have := hok.1.2; omega
  unfold Rd.need
  generalize (r.days.drop i).take (j - i) = l at *
  generalize cutA A 4 cap i = A' at *
  clear hd hcap
  have Hl := Lib.hid hl
  clear hl hok hn hj
  go_enter Try.func114, Try.ntmps114
  go_wp2
  go_loopw [6, 8, 15] (fun s _ t wr => ∃ (k : Nat) (x : Int), k ≤ j - i ∧ t = .int .i64 k ∧ s = .int .i64 x ∧ (0 ≤ x ∧ x ≤ 300000) ∧ Hid (x = isum ((l.take k).map Mkt.need)) ∧ Below w.heap.size w wr) (fun _ _ t _ => j - i - (intOf t).toNat)
  case atStart => exact ⟨0, 0, by omega, rfl, rfl, by omega, rfl, (Below.refl _ _).alloc (Nat.le_refl _) _⟩
  case round =>
    obtain ⟨k, x, hk, rfl, rfl, hx, Hx, hb⟩ := hrel
    by_cases hlt : k < j - i
    · have hk1 : k < l.length := by rw [Hl.out]; exact hlt
      obtain ⟨b, off, rfl, hbl, c0, c1, c2, c3⟩ := (hd'.ext hb).at4 hk1 rfl
      have h2 := hmem l[k] (List.getElem_mem _)
      have h1 : 0 ≤ x + l[k].need ∧ x + l[k].need ≤ 300000 := by
        have hs := isum_map_take_succ Mkt.need l k hk1
        have h3 := isum_map_bd Mkt.need (l.take (k + 1)) 10000 (fun x hx => hmem x (List.mem_of_mem_take hx))
        have h4 : ((l.take (k + 1)).length : Int) ≤ 30 := by simp; omega
        rw [hs, ← Hx.out] at h3
        omega
      have H1 := Lib.hid (isum_map_take_succ Mkt.need l k hk1)
      go_wp2
      go_roundw
      case rel => exact ⟨k + 1, _, by omega, by go_num, rfl, h1, Lib.hid (by rw [H1.out, ← Hx.out]), hb.alloc hb.size _⟩
      case measure => simp [intOf]; omega
    · go_wp2
      go_ret
      exact ⟨ret_congr (int_congr (by rw [Hx.out, List.take_of_length_le (by rw [Hl.out]; omega)])), hb⟩

theorem need_any (r : Rd) (A : Option Addr) (n cap : Nat) (keep : Int) (i j : Int) (w : World) (hok : r.ok) (hn : r.days.length = n) (hcap : n ≤ cap) (h0 : 0 ≤ i) (hi : i ≤ j) (hj : j ≤ n) (hd : RdAt w A r) :
    Calls Try.prog 114 #[.agg #[.slice A n cap, .int .i64 keep], .int .i64 i, .int .i64 j] w fun e w' => e = .returned (.int .i64 (r.need i.toNat j.toNat)) ∧ Below w.heap.size w w' := by
  obtain ⟨i, rfl⟩ := Int.eq_ofNat_of_zero_le h0
  obtain ⟨j, rfl⟩ := Int.eq_ofNat_of_zero_le (Int.le_trans h0 hi)
  exact need_nat r A n cap keep i j w hok hn hcap (by omega) (by omega) hd

theorem feeds_any (r : Rd) (A : Option Addr) (n cap : Nat) (i j : Nat) (w : World) (hok : r.ok) (hn : r.days.length = n) (hcap : n ≤ cap) (hj : j ≤ n) (hij : i ≤ j) (hd : RdAt w A r) :
    Calls Try.prog 112 #[.agg #[.slice A n cap, .int .i64 r.keep], .int .i64 i, .int .i64 j] w fun e w' => e = .returned (.bool (r.feeds i j)) ∧ Below w.heap.size w w' := by
  have hk := hok.2.1
  have hn30 := hok.1.2
  generalize hres : r.feeds i j = res
  have Hres := Lib.hid hres
  clear hres
  have hd1 := hd.ext (ext_alloc w (.cells #[.slice A n cap, .int .i64 r.keep] 121))
  go_enter Try.func112, Try.ntmps112
  go_wp2_with (go_at_call 114; refine (need_any r A n cap r.keep _ _ _ hok hn hcap (by omega) (by omega) (by omega) hd1).mono ?_; rintro e w1 ⟨rfl, hb1⟩)
  all_goals
    go_ret
    refine ⟨ret_congr (bool_congr ?_), (ext_trans (ext_alloc _ _) hb1)⟩
    rw [← Hres.out]
    unfold Rd.feeds
    rw [show min j (i + r.keep.toNat) = _ from ?_]
  all_goals omega

set_option maxHeartbeats 400000 in
theorem price_any (r : Rd) (A : Option Addr) (n cap : Nat) (i j : Nat) (w : World) (hok : r.ok) (hn : r.days.length = n) (hcap : n ≤ cap) (hi : i < j) (hj : j ≤ n) (hd : RdAt w A r) :
    Calls Try.prog 113 #[.agg #[.slice A n cap, .int .i64 r.keep], .int .i64 i, .int .i64 j] w fun e w' => e = .returned (.int .i64 (r.price i j)) ∧ Below w.heap.size w w' := by
  obtain ⟨b, off, rfl, hb, c0, c1, c2, c3⟩ := hd.day (k := i) (by omega)
  have hin : (0 : Int) ≤ (i : Int) ∧ (i : Int) < (n : Int) := by omega
  have hb1 := ext_alloc w (.cells #[.slice (some ⟨b, off, none⟩) n cap, .int .i64 r.keep] 121)
  have hday := Rd.day_ok hok (i := i) (by omega)
  have hnd := Rd.need_bd hok i j
  have hm := mul_bd hday.2.1.1 hday.2.1.2 hnd.1 hnd.2
  have ht := hday.2.2
  generalize hres : r.price i j = res
  have Hres := Lib.hid hres
  clear hres
  go_enter Try.func113, Try.ntmps113
  go_wp2
  refine Dr.wp_region_plan 19 [] (.q [0, 1, 2, 3, 4, 5, 6, 7, 8, 9, 10, 11, 12, 13, 14] (.e1 15 (.q [16, 17, 18] .done))) (by kernel_rfl) (by kernel_rfl) ?_
  generalize hW : World.drew _ = W
  have hbW : Below w.heap.size w W := by rw [← hW]; exact (ext_alloc _ _).drew
  have q0 := Dr.cell0 (w := W) (a := ⟨w.heap.size, 0, none⟩) (v := .slice (some ⟨b, off, none⟩) n cap) (by rw [← hW]; simp)
  have q1 := Dr.cell0 (w := W) (a := ⟨w.heap.size, 1, none⟩) (v := .int .i64 r.keep) (by rw [← hW]; simp)
  have q2 := Dr.cell0 (cell_ext c1 hbW)
  have q3 := Dr.cell0 (cell_ext c2 hbW)
  clear hW hb1
  refine Dr.plan_q (l := [_, _, _, _, _, _, _, _, _, _, _, _, _, _, _]) rfl (fun K hK => ?_)
  iterate 15 (go_big_quiet_step (fail))
  refine wpQuiet_nil (hK _ ?_); clear hK K
  refine Dr.plan_e rfl (by rfl) (fun K hK => ?_)
  go_wp2_with fail
  refine (need_any r (some ⟨b, off, none⟩) n cap r.keep _ _ _ hok hn hcap (by omega) (by omega) (by omega) (hd.ext hbW)).mono ?_; rintro e w1 ⟨rfl, hb1⟩
  refine hK _ _ (.of hb1) ?_; clear hK K
  simp only [Int.toNat_natCast]
  refine Dr.plan_q (l := [_, _, _]) rfl (fun K hK => ?_)
  iterate 3 (go_big_quiet_step (fail))
  refine wpQuiet_nil (hK _ ?_); clear hK K
  refine Dr.plan_end rfl ?_
  go_wp2
  go_ret
  exact ⟨ret_congr (int_congr (by rw [← Hres.out]; unfold Rd.price; rfl)), ext_trans hbW hb1⟩
end Go.Proofs.Ytilkoooahoecfaa.Yd

/- Weary, as plain data. -/
namespace Go.Yd
open Go.Pl
def weekL (log : List Int) : List Int := log.drop (log.length - 7)
def longB (d : Int) (log : List Int) : Bool := decide (d < log.getD (log.length - 1) 0)
def fullB (k : Int) (log : List Int) : Bool := decide (k < isum (weekL log))
def restB (log : List Int) : Bool := decide (7 ≤ log.length) && !(weekL log).contains 0
def whyI (d k : Int) (log : List Int) : Int := if longB d log then 1 else if fullB k log then 2 else if restB log then 3 else 0
def ruleB (d k : Int) : Bool := decide (0 ≤ d ∧ d ≤ 1440) && decide (0 ≤ k ∧ k ≤ 10080)
/-- the first day with a fault: its index, its fault and the error -/
def wearyR (d k : Int) (log : List Int) : Int × Int × Int :=
  if !ruleB d k then (0, 0, 1)
  else if 60 < log.length then (0, 0, 3)
  else if !log.all (fun x => decide (0 ≤ x ∧ x ≤ 1440)) then (0, 0, 2)
  else match (List.range log.length).find? (fun i => whyI d k (log.take (i + 1)) != 0) with
    | some i => (i, whyI d k (log.take (i + 1)), 0)
    | none => (0, 0, 7)
end Go.Yd

/- Walks: slices.Index, slices.Contains at ints; sum; the faults of a day. -/
namespace Go.Proofs.Ytilkoooahoecfaa.Yd
open Go.RowKit Go.Bs Go.Yd Go.Pl Go.Sort

set_option maxHeartbeats 800000 in
theorem sindex_int (v : Int) (A : Option Addr) (n cap : Nat) (l : List Int) (w : World) (hn : l.length = n) (hm : n ≤ 9223372036854775807) (hd : Cells w A 1 encI l) :
    Calls Try.prog 151 #[.slice A n cap, .int .i64 v] w fun e w' => e = .returned (.int .i64 (idxF (fun x => v == x) l)) ∧ w = w' := by
  have Hn := Lib.hid hn
  clear hn
  generalize hres : idxF (fun x => v == x) l = res
  have Hres := Lib.hid hres
  clear hres
  go_enter Try.func151, Try.ntmps151
  go_wp2
  go_loop [5, 8] (fun _ t => ∃ (k : Nat), k ≤ n ∧ t = .int .i64 k ∧ Hid (∀ x ∈ l.take k, (v == x) = false)) (fun _ t => n - (intOf t).toNat)
  case atStart => exact ⟨0, by omega, rfl, Lib.hid (by simp)⟩
  case round =>
    obtain ⟨k, hk, rfl, Hk⟩ := hrel
    by_cases hlt : k < n
    · have hk1 : k < l.length := by rw [Hn.out]; exact hlt
      obtain ⟨b, off, rfl, hbl, c0⟩ := hd.at1 hk1 rfl
      have hz : (0 : Int) ≤ k := by omega
      cases hq : v == l[k]
      · have Hq := Lib.hid hq
        go_wp2
        go_round
        case rel => exact ⟨k + 1, by omega, by go_num, Lib.hid (fun x hx => by
          rw [List.take_succ_eq_append_getElem hk1] at hx
          rcases List.mem_append.1 hx with hx | hx
          · exact Hk.out x hx
          · simp at hx; rw [hx]; exact Hq.out)⟩
        case measure => simp [intOf]; omega
      · have Hq := Lib.hid hq
        go_wp2
        go_ret
        exact ⟨ret_congr (int_congr (by rw [← Hres.out, idxF_hit (p := fun x => v == x) hk1 Hq.out Hk.out])), rfl⟩
    · go_wp2
      go_ret
      exact ⟨ret_congr (int_congr (by rw [← Hres.out, idxF_miss (p := fun x => v == x) (fun x hx => Hk.out x (by rw [List.take_of_length_le (by rw [Hn.out]; omega)]; exact hx))])), rfl⟩

theorem scontains_int (v : Int) (A : Option Addr) (n cap : Nat) (l : List Int) (w : World) (hn : l.length = n) (hm : n ≤ 9223372036854775807) (hd : Cells w A 1 encI l) :
    Calls Try.prog 123 #[.slice A n cap, .int .i64 v] w fun e w' => e = .returned (.bool (l.contains v)) ∧ w = w' := by
  have hc := sindex_int v A n cap l w hn hm hd
  rw [show l.contains v = decide (0 ≤ idxF (fun x => v == x) l) by rw [idxF_nonneg, List.contains_eq_any_beq]]
  generalize idxF (fun x => v == x) l = x at *
  have Hc := Lib.hid hc
  clear hc hn hd
  go_enter Try.func123, Try.ntmps123
  go_wp2_with fail
  refine Hc.out.mono ?_; rintro e w1 ⟨rfl, rfl⟩
  go_wp2
  go_ret
  exact ⟨rfl, rfl⟩

set_option maxHeartbeats 800000 in
theorem sum_any (A : Option Addr) (n cap : Nat) (l : List Int) (w : World) (hn : l.length = n) (hm : n ≤ 1000) (hd : Cells w A 1 encI l) (hv : ∀ x ∈ l, 0 ≤ x ∧ x ≤ 1000000000000) :
    Calls Try.prog 121 #[.slice A n cap] w fun e w' => e = .returned (.int .i64 (isum l)) ∧ w = w' := by
  have Hn := Lib.hid hn
  clear hn
  have Hv := Lib.hid hv
  clear hv
  go_enter Try.func121, Try.ntmps121
  go_wp2
  go_loop [2, 4, 7] (fun s _ t => ∃ (k : Nat) (x : Int), k ≤ n ∧ t = .int .i64 k ∧ s = .int .i64 x ∧ (0 ≤ x ∧ x ≤ 1000000000000000) ∧ Hid (x = isum (l.take k))) (fun _ _ t => n - (intOf t).toNat)
  case atStart => exact ⟨0, 0, by omega, rfl, rfl, by omega, Lib.hid rfl⟩
  case round =>
    obtain ⟨k, x, hk, rfl, rfl, hx, Hx⟩ := hrel
    by_cases hlt : k < n
    · have hk1 : k < l.length := by rw [Hn.out]; exact hlt
      obtain ⟨b, off, rfl, hbl, c0⟩ := hd.at1 hk1 rfl
      have h2 := Hv.out l[k] (List.getElem_mem _)
      have h1 : 0 ≤ x + l[k] ∧ x + l[k] ≤ 1000000000000000 := by
        have hs := isum_map_take_succ id l k hk1
        have h3 := isum_map_bd id (l.take (k + 1)) 1000000000000 (fun x hx => Hv.out x (List.mem_of_mem_take hx))
        have h4 : ((l.take (k + 1)).length : Int) ≤ 1000 := by simp; omega
        simp only [List.map_id, id] at hs h3
        rw [hs, ← Hx.out] at h3
        omega
      have H1 := Lib.hid (isum_map_take_succ id l k hk1)
      have hz : (0 : Int) ≤ k := by omega
      go_wp2
      go_round
      case rel => exact ⟨k + 1, _, by omega, by go_num, rfl, h1, Lib.hid (by have := H1.out; simp only [List.map_id, id] at this; rw [this, ← Hx.out])⟩
      case measure => simp [intOf]; omega
    · go_wp2
      go_ret
      exact ⟨ret_congr (int_congr (by rw [Hx.out, List.take_of_length_le (by rw [Hn.out]; omega)])), rfl⟩

theorem week_any (d k : Int) (A : Option Addr) (n cap : Nat) (w : World) (hm : n ≤ 1000) (hcap : n ≤ cap) :
    Calls Try.prog 122 #[.agg #[.int .i64 d, .int .i64 k, .slice A n cap]] w fun e w' => e = .returned (.slice (cutA A 1 cap (n - 7)) (n - (n - 7)) (cap - (n - 7))) ∧ Below w.heap.size w w' := by
  generalize hres : (Value.slice (cutA A 1 cap (n - 7)) (n - (n - 7)) (cap - (n - 7))) = v
  have Hres := Lib.hid hres
  clear hres
  by_cases h7 : 7 < n
  · have h77 : (7 : Int) < n := by omega
    go_enter Try.func122, Try.ntmps122
    go_wp2
    go_ret
    refine ⟨ret_congr ?_, ext_alloc _ _⟩
    rw [← Hres.out, cutA_pos _ (by omega)]
    simp only [Nat.mul_one]
    rfl
  · go_enter Try.func122, Try.ntmps122
    go_wp2
    go_ret
    refine ⟨ret_congr ?_, ext_alloc _ _⟩
    rw [← Hres.out, show n - 7 = 0 by omega, cutA_zero]
    rfl

theorem long_any (d k : Int) (A : Option Addr) (n cap : Nat) (l : List Int) (w : World) (hn : l.length = n) (h1 : 1 ≤ n) (hm : n ≤ 1000) (hd : Cells w A 1 encI l) :
    Calls Try.prog 79 #[.agg #[.int .i64 d, .int .i64 k, .slice A n cap]] w fun e w' => e = .returned (.bool (longB d l)) ∧ Below w.heap.size w w' := by
  obtain ⟨b, off, rfl, hbl, c0⟩ := hd.at1 (k := n - 1) (by omega) (v := .int .i64 (l.getD (n - 1) 0)) (by simp [encI, show n - 1 < l.length by omega])
  have hb1 := ext_alloc w (.cells #[.int .i64 d, .int .i64 k, .slice (some ⟨b, off, none⟩) n cap] 128)
  unfold longB
  rw [hn]
  clear hn
  generalize l.getD (n - 1) 0 = x at *
  have hz : (0 : Int) ≤ (n : Int) - 1 ∧ (n : Int) - 1 < n := by omega
  have e1 : ((n : Int) - 1).toNat = n - 1 := by omega
  go_enter Try.func79, Try.ntmps79
  go_wp2
  refine Dr.wp_region_plan 13 [] (.q [0, 1, 2, 3, 4, 5, 6, 7, 8, 9, 10, 11, 12] .done) (by kernel_rfl) (by kernel_rfl) ?_
  generalize hW : World.drew _ = W
  have hbW : Below w.heap.size w W := by rw [← hW]; exact hb1.drew
  have q0 := Dr.cell0 (w := W) (a := ⟨w.heap.size, 0, none⟩) (v := .int .i64 d) (by rw [← hW]; simp)
  have q2 := Dr.cell0 (w := W) (a := ⟨w.heap.size, 2, none⟩) (v := .slice (some ⟨b, off, none⟩) n cap) (by rw [← hW]; simp)
  have q3 := Dr.cell0 (cell_ext c0 hbW)
  clear hW
  refine Dr.plan_q (l := [_, _, _, _, _, _, _, _, _, _, _, _, _]) rfl (fun K hK => ?_)
  iterate 13 (go_big_quiet_step (fail))
  refine wpQuiet_nil (hK _ ?_); clear hK K
  refine Dr.plan_end rfl ?_
  go_wp2
  go_ret
  exact ⟨rfl, hbW⟩

theorem weekL_cells {w : World} {A : Option Addr} {n cap : Nat} {l : List Int} (hd : Cells w A 1 encI l) (hn : l.length = n) (hcap : n ≤ cap) : Cells w (cutA A 1 cap (n - 7)) 1 encI (weekL l) := by
  have := Cells.cut hd (cap := cap) (lo := n - 7) (hi := n) (by omega) hcap
  rw [List.take_of_length_le (by simp; omega)] at this
  unfold weekL
  rw [hn]; exact this
theorem weekL_len {n : Nat} {l : List Int} (hn : l.length = n) : (weekL l).length = n - (n - 7) := by unfold weekL; rw [List.length_drop, hn]
theorem weekL_mem {l : List Int} {x : Int} (h : x ∈ weekL l) : x ∈ l := List.mem_of_mem_drop h

theorem full_any (d k : Int) (A : Option Addr) (n cap : Nat) (l : List Int) (w : World) (hn : l.length = n) (hm : n ≤ 1000) (hcap : n ≤ cap) (hd : Cells w A 1 encI l) (hv : ∀ x ∈ l, 0 ≤ x ∧ x ≤ 1440) :
    Calls Try.prog 80 #[.agg #[.int .i64 d, .int .i64 k, .slice A n cap]] w fun e w' => e = .returned (.bool (fullB k l)) ∧ Below w.heap.size w w' := by
  have hb1 := ext_alloc w (.cells #[.int .i64 d, .int .i64 k, .slice A n cap] 128)
  have hwk := weekL_cells hd hn hcap
  have hwn := weekL_len hn
  have hv' : ∀ x ∈ weekL l, 0 ≤ x ∧ x ≤ 1000000000000 := fun x hx => by have := hv x (weekL_mem hx); omega
  unfold fullB
  clear hn hd
  generalize weekL l = l' at *
  have Hwn := Lib.hid hwn
  clear hwn
  go_enter Try.func80, Try.ntmps80
  go_wp2
  refine Dr.wp_region_plan 8 [] (.q [0, 3, 4, 5] (.e1 1 (.e1 2 (.q [6, 7] .done)))) (by kernel_rfl) (by kernel_rfl) ?_
  generalize hW : World.drew _ = W
  have hbW : Below w.heap.size w W := by rw [← hW]; exact hb1.drew
  have q0 := Dr.cell0 (w := W) (a := ⟨w.heap.size, 0, none⟩) (v := .int .i64 d) (by rw [← hW]; simp)
  have q1 := Dr.cell0 (w := W) (a := ⟨w.heap.size, 1, none⟩) (v := .int .i64 k) (by rw [← hW]; simp)
  have q2 := Dr.cell0 (w := W) (a := ⟨w.heap.size, 2, none⟩) (v := .slice A n cap) (by rw [← hW]; simp)
  clear hW
  refine Dr.plan_q (l := [_, _, _, _]) rfl (fun K hK => ?_)
  iterate 4 (go_big_quiet_step (fail))
  refine wpQuiet_nil (hK _ ?_); clear hK K
  refine Dr.plan_e rfl (by rfl) (fun K hK => ?_)
  go_wp2_with fail
  refine (week_any d k A n cap _ hm hcap).mono ?_; rintro e w1 ⟨rfl, hb1⟩
  refine hK _ _ (.of hb1) ?_; clear hK K
  refine Dr.plan_e rfl (by rfl) (fun K hK => ?_)
  go_wp2_with fail
  refine (sum_any _ _ _ l' _ Hwn.out (by omega) ((hwk.ext hbW).ext hb1) hv').mono ?_; rintro e w2 ⟨rfl, rfl⟩
  refine hK _ _ (.refl _ _) ?_; clear hK K
  refine Dr.plan_q (l := [_, _]) rfl (fun K hK => ?_)
  iterate 2 (go_big_quiet_step (fail))
  refine wpQuiet_nil (hK _ ?_); clear hK K
  refine Dr.plan_end rfl ?_
  go_wp2
  go_ret
  exact ⟨rfl, ext_trans hbW hb1⟩

theorem restless_any (d k : Int) (A : Option Addr) (n cap : Nat) (l : List Int) (w : World) (hn : l.length = n) (hm : n ≤ 1000) (hcap : n ≤ cap) (hd : Cells w A 1 encI l) :
    Calls Try.prog 81 #[.agg #[.int .i64 d, .int .i64 k, .slice A n cap]] w fun e w' => e = .returned (.bool (restB l)) ∧ Below w.heap.size w w' := by
  have hb1 := ext_alloc w (.cells #[.int .i64 d, .int .i64 k, .slice A n cap] 128)
  have hwk := weekL_cells hd hn hcap
  have hwn := weekL_len hn
  unfold restB
  rw [hn]
  clear hn hd
  by_cases h7 : 7 ≤ n
  · have hh : decide ((7 : Int) ≤ (n : Int)) = true := by simp; omega
    simp only [h7, decide_true, Bool.true_and]
    generalize weekL l = l' at *
    have Hwn := Lib.hid hwn
    clear hwn
    go_enter Try.func81, Try.ntmps81
    go_wp2_with fail
    refine (week_any d k A n cap _ hm hcap).mono ?_; rintro e w1 ⟨rfl, hb2⟩
    go_wp2_with fail
    refine (scontains_int 0 _ _ _ l' _ Hwn.out (by omega) ((hwk.ext hb1).ext hb2)).mono ?_; rintro e w2 ⟨rfl, rfl⟩
    go_wp2
    go_ret
    exact ⟨ret_congr (bool_congr (by simp)), ext_trans hb1 hb2⟩
  · simp only [h7, decide_false, Bool.false_and]
    go_enter Try.func81, Try.ntmps81
    go_wp2
    go_ret
    exact ⟨rfl, hb1⟩

def faultF (f : Nat) (d k : Int) (A : Option Addr) (n cap : Nat) : Value := .func (.func f) #[.agg #[.int .i64 d, .int .i64 k, .slice A n cap]] #[]
set_option maxHeartbeats 800000 in
theorem why_any (d k : Int) (A : Option Addr) (n cap : Nat) (l : List Int) (w : World) (hn : l.length = n) (h1 : 1 ≤ n) (hm : n ≤ 1000) (hcap : n ≤ cap) (hd : Cells w A 1 encI l) (hv : ∀ x ∈ l, 0 ≤ x ∧ x ≤ 1440) :
    Calls Try.prog 46 #[.agg #[.int .i64 d, .int .i64 k, .slice A n cap]] w fun e w' => e = .returned (.int .u8 (whyI d k l)) ∧ Below w.heap.size w w' := by
  have hb1 := ext_alloc w (.cells #[.int .i64 d, .int .i64 k, .slice A n cap] 128)
  have i0 : ∀ w, (Instr.index 158 (.agg #[faultF 79 d k A n cap, faultF 80 d k A n cap, faultF 81 d k A n cap]) (.int .i64 0)).run Try.prog w = .ok (faultF 79 d k A n cap) w := fun _ => by kernel_rfl
  have i1 : ∀ w, (Instr.index 158 (.agg #[faultF 79 d k A n cap, faultF 80 d k A n cap, faultF 81 d k A n cap]) (.int .i64 1)).run Try.prog w = .ok (faultF 80 d k A n cap) w := fun _ => by kernel_rfl
  have i2 : ∀ w, (Instr.index 158 (.agg #[faultF 79 d k A n cap, faultF 80 d k A n cap, faultF 81 d k A n cap]) (.int .i64 2)).run Try.prog w = .ok (faultF 81 d k A n cap) w := fun _ => by kernel_rfl
  have c0 := fun W hb => long_any d k A n cap l W hn h1 hm (Cells.ext hd hb)
  have c1 := fun W hb => full_any d k A n cap l W hn hm hcap (Cells.ext hd hb) hv
  have c2 := fun W hb => restless_any d k A n cap l W hn hm hcap (Cells.ext hd hb)
  unfold whyI
  unfold faultF at i0 i1 i2
  generalize longB d l = p0 at *
  generalize fullB k l = p1 at *
  generalize restB l = p2 at *
  have C0 := Lib.hid c0
  have C1 := Lib.hid c1
  have C2 := Lib.hid c2
  clear c0 c1 c2 hd hv hn
  generalize hres : (if p0 = true then (1 : Int) else if p1 = true then 2 else if p2 = true then 3 else 0) = res
  have Hres := Lib.hid hres
  clear hres
  go_enter Try.func46, Try.ntmps46
  go_wp2
  go_loopw [2, 3, 4, 12] (fun _ _ _ t wr => ∃ (j : Int), t = .int .i64 j ∧ Hid ((j = 0) ∨ (j = 1 ∧ p0 = false) ∨ (j = 2 ∧ p0 = false ∧ p1 = false) ∨ (j = 3 ∧ p0 = false ∧ p1 = false ∧ p2 = false)) ∧ Below w.heap.size w wr) (fun _ _ _ t _ => (3 - intOf t).toNat)
  case atStart => exact ⟨0, rfl, Lib.hid (.inl rfl), hb1⟩
  case round =>
    obtain ⟨j, rfl, Hj, hb⟩ := hrel
    rcases Hj.out with rfl | ⟨rfl, rfl⟩ | ⟨rfl, rfl, rfl⟩ | ⟨rfl, rfl, rfl, rfl⟩
    · clear Hj
      cases p0
      · go_wp2_with fail
        refine (C0.out _ hb).mono ?_; rintro e w1 ⟨rfl, hb2⟩
        go_wp2
        go_roundw
        case rel => exact ⟨1, rfl, Lib.hid (by simp), ext_trans hb hb2⟩
        case measure => simp [intOf]
      · go_wp2_with fail
        refine (C0.out _ hb).mono ?_; rintro e w1 ⟨rfl, hb2⟩
        go_wp2
        go_ret
        exact ⟨ret_congr (int_congr (by rw [← Hres.out]; rfl)), ext_trans hb hb2⟩
    · clear Hj
      cases p1
      · go_wp2_with fail
        refine (C1.out _ hb).mono ?_; rintro e w1 ⟨rfl, hb2⟩
        go_wp2
        go_roundw
        case rel => exact ⟨2, rfl, Lib.hid (by simp), ext_trans hb hb2⟩
        case measure => simp [intOf]
      · go_wp2_with fail
        refine (C1.out _ hb).mono ?_; rintro e w1 ⟨rfl, hb2⟩
        go_wp2
        go_ret
        exact ⟨ret_congr (int_congr (by rw [← Hres.out]; rfl)), ext_trans hb hb2⟩
    · clear Hj
      cases p2
      · go_wp2_with fail
        refine (C2.out _ hb).mono ?_; rintro e w1 ⟨rfl, hb2⟩
        go_wp2
        go_roundw
        case rel => exact ⟨3, rfl, Lib.hid (by simp), ext_trans hb hb2⟩
        case measure => simp [intOf]
      · go_wp2_with fail
        refine (C2.out _ hb).mono ?_; rintro e w1 ⟨rfl, hb2⟩
        go_wp2
        go_ret
        exact ⟨ret_congr (int_congr (by rw [← Hres.out]; rfl)), ext_trans hb hb2⟩
    · clear Hj
      go_wp2
      go_ret
      exact ⟨ret_congr (int_congr (by rw [← Hres.out]; rfl)), hb⟩

theorem day_ok (l : List Int) (w : World) : PredB Try.prog 45 #[] (Value.int .i64) (fun x => decide (0 ≤ x ∧ x ≤ 1440)) w l := by
  intro W x hx hb
  show Calls Try.prog 45 #[.int .i64 x] W fun e w' => e = .returned (.bool (decide (0 ≤ x ∧ x ≤ 1440))) ∧ Below W.heap.size W w'
  have Hc := Lib.hid (within_any x 0 1440 W)
  generalize decide (0 ≤ x ∧ x ≤ 1440) = q at *
  go_enter Try.func45, Try.ntmps45
  go_wp2_with fail
  refine Hc.out.mono ?_; rintro e w1 ⟨rfl, rfl⟩
  go_wp2
  go_ret
  exact ⟨rfl, Below.refl _ _⟩
end Go.Proofs.Ytilkoooahoecfaa.Yd

/- Walk: Weary. -/
namespace Go.Proofs.Ytilkoooahoecfaa.Yd
open Go.RowKit Go.Bs Go.Yd Go.Pl Go.Sort

def tupW (r : Int × Int × Int) : Value := .tuple #[.int .i64 r.1, .int .u8 r.2.1, .int .i64 r.2.2]

theorem weary_rule (d k : Int) (A : Option Addr) (n cap : Nat) (w : World) (h : ruleB d k = false) :
    Calls Try.prog 20 #[.agg #[.int .i64 d, .int .i64 k], .slice A n cap] w fun e w' => e = .returned (.tuple #[.int .i64 0, .int .u8 0, .int .i64 1]) ∧ Below w.heap.size w w' := by
  by_cases h1 : 0 ≤ d ∧ d ≤ 1440
  · have h2 : ¬ (0 ≤ k ∧ k ≤ 10080) := by
      intro h2
      simp [ruleB, h1, h2] at h
    have c1 := within_t h1
    have c2 := within_f h2
    have C1 := Lib.hid c1
    have C2 := Lib.hid c2
    clear c1 c2 h h1 h2
    go_enter Try.func20, Try.ntmps20
    go_wp2_with fail
    refine (C1.out _).mono ?_; rintro e w1 ⟨rfl, rfl⟩
    go_wp2_with fail
    refine (C2.out _).mono ?_; rintro e w1 ⟨rfl, rfl⟩
    go_wp2
    go_ret3
    exact ⟨rfl, ext_alloc _ _⟩
  · have c1 := within_f h1
    have C1 := Lib.hid c1
    clear c1 h h1
    go_enter Try.func20, Try.ntmps20
    go_wp2_with fail
    refine (C1.out _).mono ?_; rintro e w1 ⟨rfl, rfl⟩
    go_wp2
    go_ret3
    exact ⟨rfl, ext_alloc _ _⟩

theorem weary_long (d k : Int) (A : Option Addr) (n cap : Nat) (w : World) (h : ruleB d k = true) (hn : 60 < n) :
    Calls Try.prog 20 #[.agg #[.int .i64 d, .int .i64 k], .slice A n cap] w fun e w' => e = .returned (.tuple #[.int .i64 0, .int .u8 0, .int .i64 3]) ∧ Below w.heap.size w w' := by
  simp only [ruleB, Bool.and_eq_true, decide_eq_true_eq] at h
  have C1 := Lib.hid (within_t h.1)
  have C2 := Lib.hid (within_t h.2)
  clear h
  have hn' : (60 : Int) < n := by omega
  go_enter Try.func20, Try.ntmps20
  go_wp2_with fail
  refine (C1.out _).mono ?_; rintro e w1 ⟨rfl, rfl⟩
  go_wp2_with fail
  refine (C2.out _).mono ?_; rintro e w1 ⟨rfl, rfl⟩
  go_wp2
  go_ret3
  exact ⟨rfl, ext_alloc _ _⟩

theorem weary_bad (d k : Int) (A : Option Addr) (n cap : Nat) (l : List Int) (w : World) (h : ruleB d k = true) (hln : l.length = n) (hn : n ≤ 60) (hd : Cells w A 1 encI l) (hv : l.all (fun x => decide (0 ≤ x ∧ x ≤ 1440)) = false) :
    Calls Try.prog 20 #[.agg #[.int .i64 d, .int .i64 k], .slice A n cap] w fun e w' => e = .returned (.tuple #[.int .i64 0, .int .u8 0, .int .i64 2]) ∧ Below w.heap.size w w' := by
  simp only [ruleB, Bool.and_eq_true, decide_eq_true_eq] at h
  have C1 := Lib.hid (within_t h.1)
  have C2 := Lib.hid (within_t h.2)
  have hb0 := ext_alloc w (.cells #[.int .i64 d, .int .i64 k] 85)
  have C3 := Lib.hid (all_int 45 #[] (fun x => decide (0 ≤ x ∧ x ≤ 1440)) A n cap l _ (enters_of Try.func45 (by kernel_rfl) rfl) hln (by omega) (hd.ext hb0) (day_ok l _))
  rw [hv] at C3
  clear h hd hv hln
  have hn' : (n : Int) ≤ 60 := by omega
  go_enter Try.func20, Try.ntmps20
  go_wp2_with fail
  refine (C1.out _).mono ?_; rintro e w1 ⟨rfl, rfl⟩
  go_wp2_with fail
  refine (C2.out _).mono ?_; rintro e w1 ⟨rfl, rfl⟩
  go_wp2_with fail
  refine C3.out.mono ?_; rintro e w1 ⟨rfl, hb1⟩
  go_wp2
  go_ret3
  exact ⟨rfl, ext_trans hb0 hb1⟩

set_option maxHeartbeats 800000 in
theorem weary_ok (d k : Int) (A : Option Addr) (n cap : Nat) (l : List Int) (w : World) (h : ruleB d k = true) (hln : l.length = n) (hn : n ≤ 60) (hcap : n ≤ cap) (hd : Cells w A 1 encI l) (hv : l.all (fun x => decide (0 ≤ x ∧ x ≤ 1440)) = true) :
    Calls Try.prog 20 #[.agg #[.int .i64 d, .int .i64 k], .slice A n cap] w fun e w' => e = .returned (tupW (wearyR d k l)) ∧ Below w.heap.size w w' := by
  have hR : wearyR d k l = match (List.range l.length).find? (fun i => whyI d k (l.take (i + 1)) != 0) with
    | some i => ((i : Int), whyI d k (l.take (i + 1)), 0)
    | none => (0, 0, 7) := by
    unfold wearyR
    rw [h, hv, if_neg (by simp), if_neg (by omega), if_neg (by simp)]
  have hv' : ∀ x ∈ l, 0 ≤ x ∧ x ≤ 1440 := fun x hx => by simpa using List.all_eq_true.1 hv x hx
  simp only [ruleB, Bool.and_eq_true, decide_eq_true_eq] at h
  have C1 := Lib.hid (within_t h.1)
  have C2 := Lib.hid (within_t h.2)
  have hb0 := ext_alloc w (.cells #[.int .i64 d, .int .i64 k] 85)
  have C3 := Lib.hid (all_int 45 #[] (fun x => decide (0 ≤ x ∧ x ≤ 1440)) A n cap l _ (enters_of Try.func45 (by kernel_rfl) rfl) hln (by omega) (hd.ext hb0) (day_ok l _))
  rw [hv] at C3
  have C4 : Hid (∀ (i : Nat) (W : World), i < n → Below w.heap.size w W → Calls Try.prog 46 #[.agg #[.int .i64 d, .int .i64 k, .slice (cutA A 1 cap 0) (i + 1) cap]] W fun e w' => e = .returned (.int .u8 (whyI d k (l.take (i + 1)))) ∧ Below W.heap.size W w') :=
    Lib.hid fun i W hi hb => why_any d k _ (i + 1) cap (l.take (i + 1)) W (by simp; omega) (by omega) (by omega) (by omega) ((Cells.cut0 hd (cap := cap) (by omega)).ext hb) (fun x hx => hv' x (List.mem_of_mem_take hx))
  have Hw : Hid (∀ i, i < n → whyI d k (l.take (i + 1)) = 0 ∨ whyI d k (l.take (i + 1)) ≠ 0) := Lib.hid fun i _ => by omega
  simp only [cutA_zero] at C4
  have HR := Lib.hid hR
  have Hln := Lib.hid hln
  clear hR hln h hd hv hv'
  have hn' : (n : Int) ≤ 60 := by omega
  go_enter Try.func20, Try.ntmps20
  go_wp2_with fail
  refine (C1.out _).mono ?_; rintro e w1 ⟨rfl, rfl⟩
  go_wp2_with fail
  refine (C2.out _).mono ?_; rintro e w1 ⟨rfl, rfl⟩
  go_wp2_with fail
  refine C3.out.mono ?_; rintro e w1 ⟨rfl, hb1⟩
  go_wp2
  go_loopw [7, 8, 30] (fun _ _ t wr => ∃ (i : Nat), i ≤ n ∧ t = .int .i64 i ∧ Hid (∀ j, j < i → whyI d k (l.take (j + 1)) = 0) ∧ Below w.heap.size w wr ∧ wr.cell? ⟨w.heap.size, 0, none⟩ = some (.int .i64 d) ∧ wr.cell? ⟨w.heap.size, 1, none⟩ = some (.int .i64 k)) (fun _ _ t _ => n - (intOf t).toNat)
  case atStart => exact ⟨0, by omega, rfl, Lib.hid (by omega), ext_trans hb0 hb1, cell_ext (by simp) hb1, cell_ext (by simp) hb1⟩
  case round =>
    obtain ⟨i, hi, rfl, Hj, hb, d0, d1⟩ := hrel
    by_cases hlt : i < n
    · have hi0 : (0 : Int) ≤ i := by omega
      have hi1 : (i : Int) + 1 ≤ cap := by omega
      go_wp2
      refine Dr.wp_region_plan 8 [] (.q [0, 1, 2, 3, 4, 5] (.e1 6 (.q [7] .done))) (by kernel_rfl) (by kernel_rfl) ?_
      generalize hW : World.drew _ = W
      have hbW : Below wr.heap.size wr W := by rw [← hW]; exact ext_drew _
      have q0 := Dr.cell0 (cell_ext d0 hbW)
      have q1 := Dr.cell0 (cell_ext d1 hbW)
      clear hW
      refine Dr.plan_q (l := [_, _, _, _, _, _]) rfl (fun K hK => ?_)
      iterate 6 (go_big_quiet_step (fail))
      refine wpQuiet_nil (hK _ ?_); clear hK K
      refine Dr.plan_e rfl (by rfl) (fun K hK => ?_)
      go_wp2_with fail
      refine (C4.out i W hlt (ext_trans hb hbW)).mono ?_; rintro e w2 ⟨rfl, hb2⟩
      refine hK _ _ (.of hb2) ?_; clear hK K
      refine Dr.plan_q (l := [_]) rfl (fun K hK => ?_)
      iterate 1 (go_big_quiet_step (fail))
      refine wpQuiet_nil (hK _ ?_); clear hK K
      refine Dr.plan_end rfl ?_
      have d0' := cell_ext (cell_ext d0 hbW) hb2
      have d1' := cell_ext (cell_ext d1 hbW) hb2
      have hb3 := ext_trans (ext_trans hb hbW) hb2
      clear d0 d1 q0 q1
      generalize hy : whyI d k (l.take (i + 1)) = y
      by_cases hz : y = 0
      · subst hz
        have Hy := Lib.hid hy
        clear hy
        go_wp2
        go_roundw
        case rel => exact ⟨i + 1, by omega, by go_num, Lib.hid (fun j hj => by
          by_cases e : j = i
          · rw [e]; exact Hy.out
          · exact Hj.out j (by omega)), hb3, d0', d1'⟩
        case measure => simp [intOf]; omega
      · have hne : (y != 0) = true := by simpa using hz
        have Hy := Lib.hid hy
        have Hz := Lib.hid hz
        clear hy hz
        go_wp2
        go_ret3
        refine ⟨ret_congr ?_, hb3⟩
        rw [HR.out, Hln.out, show (List.range n).find? (fun i => whyI d k (l.take (i + 1)) != 0) = some i from ?_]
        · show _ = tupW ((i : Int), whyI d k (l.take (i + 1)), 0)
          rw [Hy.out]; rfl
        · rw [List.find?_range_eq_some]
          refine ⟨by rw [Hy.out]; exact hne, by simpa using hlt, fun j hj => ?_⟩
          simp [Hj.out j hj]
    · go_wp2
      go_ret3
      refine ⟨ret_congr ?_, hb⟩
      have hi' : i = n := by omega
      rw [HR.out, Hln.out, show (List.range n).find? (fun i => whyI d k (l.take (i + 1)) != 0) = none from ?_]
      · rfl
      · rw [List.find?_range_eq_none]
        intro j hj
        simp [Hj.out j (by omega)]

/-- Weary, for every input. -/
theorem weary_any (d k : Int) (A : Option Addr) (n cap : Nat) (l : List Int) (w : World) (hln : l.length = n) (hcap : n ≤ cap) (hd : Cells w A 1 encI l) :
    Calls Try.prog 20 #[.agg #[.int .i64 d, .int .i64 k], .slice A n cap] w fun e w' => e = .returned (tupW (wearyR d k l)) ∧ Below w.heap.size w w' := by
  cases h : ruleB d k
  · have : wearyR d k l = (0, 0, 1) := by unfold wearyR; rw [h]; rfl
    rw [this]; exact weary_rule d k A n cap w h
  · by_cases hn : 60 < n
    · have : wearyR d k l = (0, 0, 3) := by unfold wearyR; rw [h, if_neg (by simp), if_pos (by omega)]
      rw [this]; exact weary_long d k A n cap w h hn
    · cases hv : l.all (fun x => decide (0 ≤ x ∧ x ≤ 1440))
      · have : wearyR d k l = (0, 0, 2) := by unfold wearyR; rw [h, hv, if_neg (by simp), if_neg (by omega)]; rfl
        rw [this]; exact weary_bad d k A n cap l w h hln (by omega) hd hv
      · exact weary_ok d k A n cap l w h hln (by omega) hcap hd hv
end Go.Proofs.Ytilkoooahoecfaa.Yd

/- Walks: whether a road is valid. -/
namespace Go.Proofs.Ytilkoooahoecfaa.Yd
open Go.RowKit Go.Bs Go.Yd Go.Pl Go.Sort

theorem mkt_ok (l : List Mkt) (w : World) : PredB Try.prog 111 #[] Mkt.val mktB w l := by
  intro W x hx hb
  show Calls Try.prog 111 #[.agg #[.int .i64 x.need, .int .i64 x.price, .int .i64 x.trip, .bool x.opn]] W fun e w' => e = .returned (.bool (mktB x)) ∧ Below W.heap.size W w'
  have hb0 := ext_alloc W (.cells #[.int .i64 x.need, .int .i64 x.price, .int .i64 x.trip, .bool x.opn] 118)
  by_cases h1 : 0 ≤ x.need ∧ x.need ≤ 10000
  · by_cases h2 : 0 ≤ x.price ∧ x.price ≤ 1000
    · by_cases h3 : 0 ≤ x.trip ∧ x.trip ≤ 100000
      · rw [show mktB x = true by unfold mktB; rw [decide_eq_true h1, decide_eq_true h2, decide_eq_true h3]; rfl]
        have C1 := Lib.hid (within_t h1)
        have C2 := Lib.hid (within_t h2)
        have C3 := Lib.hid (within_t h3)
        clear h1 h2 h3 hx
        go_enter Try.func111, Try.ntmps111
        go_wp2_with fail
        refine (C1.out _).mono ?_; rintro e w1 ⟨rfl, rfl⟩
        go_wp2_with fail
        refine (C2.out _).mono ?_; rintro e w1 ⟨rfl, rfl⟩
        go_wp2_with fail
        refine (C3.out _).mono ?_; rintro e w1 ⟨rfl, rfl⟩
        go_wp2
        go_ret
        exact ⟨rfl, hb0⟩
      · rw [show mktB x = false by unfold mktB; rw [decide_eq_true h1, decide_eq_true h2, decide_eq_false h3]; rfl]
        have C1 := Lib.hid (within_t h1)
        have C2 := Lib.hid (within_t h2)
        have C3 := Lib.hid (within_f h3)
        clear h1 h2 h3 hx
        go_enter Try.func111, Try.ntmps111
        go_wp2_with fail
        refine (C1.out _).mono ?_; rintro e w1 ⟨rfl, rfl⟩
        go_wp2_with fail
        refine (C2.out _).mono ?_; rintro e w1 ⟨rfl, rfl⟩
        go_wp2_with fail
        refine (C3.out _).mono ?_; rintro e w1 ⟨rfl, rfl⟩
        go_wp2
        go_ret
        exact ⟨rfl, hb0⟩
    · rw [show mktB x = false by unfold mktB; rw [decide_eq_true h1, decide_eq_false h2]; rfl]
      have C1 := Lib.hid (within_t h1)
      have C2 := Lib.hid (within_f h2)
      clear h1 h2 hx
      go_enter Try.func111, Try.ntmps111
      go_wp2_with fail
      refine (C1.out _).mono ?_; rintro e w1 ⟨rfl, rfl⟩
      go_wp2_with fail
      refine (C2.out _).mono ?_; rintro e w1 ⟨rfl, rfl⟩
      go_wp2
      go_ret
      exact ⟨rfl, hb0⟩
  · rw [show mktB x = false by unfold mktB; rw [decide_eq_false h1]; rfl]
    have C1 := Lib.hid (within_f h1)
    clear h1 hx
    go_enter Try.func111, Try.ntmps111
    go_wp2_with fail
    refine (C1.out _).mono ?_; rintro e w1 ⟨rfl, rfl⟩
    go_wp2
    go_ret
    exact ⟨rfl, hb0⟩

theorem rvalid_any (r : Rd) (A : Option Addr) (n cap : Nat) (w : World) (hn : r.days.length = n) (hm : n ≤ 9223372036854775807) (hd : RdAt w A r) :
    Calls Try.prog 71 #[.agg #[.slice A n cap, .int .i64 r.keep]] w fun e w' => e = .returned (.bool r.okB) ∧ Below w.heap.size w w' := by
  have hb0 := ext_alloc w (.cells #[.slice A n cap, .int .i64 r.keep] 121)
  have C3 := Lib.hid (all_mkt 111 #[] mktB A n cap r.days _ (enters_of Try.func111 (by kernel_rfl) rfl) hn hm (hd.ext hb0) (mkt_ok r.days _))
  unfold Rd.okB
  rw [hn]
  generalize r.days.all mktB = q at *
  clear hd hn
  by_cases h1 : (1 : Int) ≤ n ∧ (n : Int) ≤ 30
  · rw [decide_eq_true h1]
    by_cases h2 : 1 ≤ r.keep ∧ r.keep ≤ 10
    · rw [decide_eq_true h2]
      have C1 := Lib.hid (within_t h1)
      have C2 := Lib.hid (within_t h2)
      clear h1 h2
      go_enter Try.func71, Try.ntmps71
      go_wp2_with fail
      refine (C1.out _).mono ?_; rintro e w1 ⟨rfl, rfl⟩
      go_wp2_with fail
      refine (C2.out _).mono ?_; rintro e w1 ⟨rfl, rfl⟩
      go_wp2_with fail
      refine C3.out.mono ?_; rintro e w1 ⟨rfl, hb1⟩
      go_wp2
      go_ret
      exact ⟨rfl, ext_trans hb0 hb1⟩
    · rw [decide_eq_false h2]
      have C1 := Lib.hid (within_t h1)
      have C2 := Lib.hid (within_f h2)
      clear h1 h2
      go_enter Try.func71, Try.ntmps71
      go_wp2_with fail
      refine (C1.out _).mono ?_; rintro e w1 ⟨rfl, rfl⟩
      go_wp2_with fail
      refine (C2.out _).mono ?_; rintro e w1 ⟨rfl, rfl⟩
      go_wp2
      go_ret
      exact ⟨rfl, hb0⟩
  · rw [decide_eq_false h1]
    have C1 := Lib.hid (within_f h1)
    clear h1
    go_enter Try.func71, Try.ntmps71
    go_wp2_with fail
    refine (C1.out _).mono ?_; rintro e w1 ⟨rfl, rfl⟩
    go_wp2
    go_ret
    exact ⟨rfl, hb0⟩
end Go.Proofs.Ytilkoooahoecfaa.Yd

/- Buying, as plain data: the two rows that the program fills from the end. -/
namespace Go.Yd
open Go.Pl
/-- the least cost of a purchase on day t that feeds the days up to s or more -/
def Rd.scan (r : Rd) (t : Nat) (f : Nat → Int) : Nat → Nat → Int → Int
  | 0, _, acc => acc
  | m + 1, s, acc => if r.feeds t s then r.scan t f m (s + 1) (min acc (r.price t s + f s)) else acc
def Rd.fromAt (r : Rd) (t : Nat) (f : Nat → Int) : Int := if (r.day t).opn then r.scan t f (r.days.length - t) (t + 1) 1000000000 else 1000000000
def Rd.tabAt (r : Rd) (t : Nat) (v : Int) (g : Nat → Int) : Int := if (r.day t).need = 0 then min v (g (t + 1)) else v
/-- the rows when m days are done, from the end -/
def Rd.rows (r : Rd) : Nat → (Nat → Int) × (Nat → Int)
  | 0 => (fun _ => 0, fun _ => 0)
  | m + 1 =>
    let t := r.days.length - 1 - m
    (upd (r.rows m).1 t (r.fromAt t (r.rows m).1), upd (r.rows m).2 t (r.tabAt t (r.fromAt t (r.rows m).1) (r.rows m).2))
def Rd.frm (r : Rd) : Nat → Int := (r.rows r.days.length).1
def Rd.tbl (r : Rd) : Nat → Int := (r.rows r.days.length).2
theorem Rd.price_nonneg {r : Rd} (h : r.ok) {i : Nat} (hi : i < r.days.length) (j : Nat) : 0 ≤ r.price i j ∧ r.price i j ≤ 300100000 := by
  have h1 := r.day_ok h hi
  have h2 := r.need_bd h i j
  have h3 := mul_bd h1.2.1.1 h1.2.1.2 h2.1 h2.2
  have h4 := h1.2.2
  unfold Rd.price
  omega
theorem Rd.scan_bd {r : Rd} (h : r.ok) {t : Nat} (ht : t < r.days.length) {f : Nat → Int} (hf : ∀ i, 0 ≤ f i ∧ f i ≤ 1000000000) :
    ∀ (m s : Nat) (acc : Int), 0 ≤ acc → acc ≤ 1000000000 → 0 ≤ r.scan t f m s acc ∧ r.scan t f m s acc ≤ 1000000000
  | 0, s, acc, h0, h1 => ⟨h0, h1⟩
  | m + 1, s, acc, h0, h1 => by
    unfold Rd.scan
    split
    · have := r.price_nonneg h ht s
      have := hf s
      exact r.scan_bd h ht hf m (s + 1) _ (by omega) (by omega)
    · exact ⟨h0, h1⟩
theorem Rd.fromAt_bd {r : Rd} (h : r.ok) {t : Nat} (ht : t < r.days.length) {f : Nat → Int} (hf : ∀ i, 0 ≤ f i ∧ f i ≤ 1000000000) : 0 ≤ r.fromAt t f ∧ r.fromAt t f ≤ 1000000000 := by
  unfold Rd.fromAt
  split
  · exact r.scan_bd h ht hf _ _ _ (by omega) (by omega)
  · omega
theorem upd_bd {f : Nat → Int} {k : Nat} {v M : Int} (hf : ∀ i, 0 ≤ f i ∧ f i ≤ M) (hv : 0 ≤ v ∧ v ≤ M) : ∀ i, 0 ≤ upd f k v i ∧ upd f k v i ≤ M := by
  intro i
  unfold upd
  split
  · exact hv
  · exact hf i
theorem Rd.tabAt_bd {r : Rd} {t : Nat} {v : Int} {g : Nat → Int} (hv : 0 ≤ v ∧ v ≤ 1000000000) (hg : ∀ i, 0 ≤ g i ∧ g i ≤ 1000000000) : 0 ≤ r.tabAt t v g ∧ r.tabAt t v g ≤ 1000000000 := by
  unfold Rd.tabAt
  have := hg (t + 1)
  split <;> omega
theorem Rd.rows_bd {r : Rd} (h : r.ok) : ∀ m, m ≤ r.days.length → (∀ i, 0 ≤ (r.rows m).1 i ∧ (r.rows m).1 i ≤ 1000000000) ∧ (∀ i, 0 ≤ (r.rows m).2 i ∧ (r.rows m).2 i ≤ 1000000000)
  | 0, _ => ⟨fun _ => by simp [Rd.rows], fun _ => by simp [Rd.rows]⟩
  | m + 1, hm => by
    have ih := Rd.rows_bd h m (by omega)
    have h1 := r.fromAt_bd h (t := r.days.length - 1 - m) (by omega) ih.1
    exact ⟨upd_bd ih.1 h1, upd_bd ih.2 (r.tabAt_bd h1 ih.2)⟩
end Go.Yd

/- Walk: buy. -/
namespace Go.Proofs.Ytilkoooahoecfaa.Yd
open Go.RowKit Go.Bs Go.Yd Go.Pl Go.Sort

/-- What the walk of buy keeps. -/
structure BuyI (w wr : World) (A : Option Addr) (n cap : Nat) (keep : Int) (Bb Bf Bt : Nat) (f g : Nat → Int) : Prop where
  bl : Below w.heap.size w wr
  nbf : Bb ≠ Bf
  nbt : Bb ≠ Bt
  nft : Bf ≠ Bt
  lb : w.heap.size + 1 < Bb
  lf : w.heap.size + 1 < Bf
  lt : w.heap.size + 1 < Bt
  R : Blk wr (w.heap.size + 1) 150 [.slice none 0 0, .int .i64 0, .slice none 0 0, .slice none 0 0]
  x0 : wr.cell? ⟨w.heap.size, 0, none⟩ = some (.slice A n cap)
  x1 : wr.cell? ⟨w.heap.size, 1, none⟩ = some (.int .i64 keep)
  B : Blk wr Bb 150 [.slice A n cap, .int .i64 keep, .slice (some ⟨Bf, 0, none⟩) (n + 1) (n + 1), .slice (some ⟨Bt, 0, none⟩) (n + 1) (n + 1)]
  F : IArr wr Bf 3 (tab (n + 1) f)
  G : IArr wr Bt 3 (tab (n + 1) g)
section
variable {w wr wr' : World} {A : Option Addr} {n cap : Nat} {keep : Int} {Bb Bf Bt : Nat} {f g : Nat → Int}
theorem BuyI.ext (h : BuyI w wr A n cap keep Bb Bf Bt f g) (hb : Below wr.heap.size wr wr') : BuyI w wr' A n cap keep Bb Bf Bt f g :=
  { h with bl := ext_trans h.bl hb, x0 := cell_ext h.x0 hb, x1 := cell_ext h.x1 hb, B := h.B.ext hb, R := h.R.ext hb, F := h.F.ext hb, G := h.G.ext hb }
theorem BuyI.setF (h : BuyI w wr A n cap keep Bb Bf Bt f g) (i : Nat) (v : Int) : BuyI w (wr.setCell ⟨Bf, i, none⟩ (.int .i64 v)) A n cap keep Bb Bf Bt (upd f i v) g :=
  { h with
    bl := h.bl.setCell (by have := h.lf; simp; omega) _
    x0 := (World.cell?_setCell_other wr ⟨Bf, i, none⟩ _ _ (by have := h.lf; intro e; injection e; omega)).trans h.x0
    x1 := (World.cell?_setCell_other wr ⟨Bf, i, none⟩ _ _ (by have := h.lf; intro e; injection e; omega)).trans h.x1
    R := h.R.other (by have := h.lf; simp; omega) _
    B := h.B.other h.nbf _
    F := by have := h.F.set i v; rwa [tab_set] at this
    G := h.G.other h.nft.symm _ }
theorem BuyI.setG (h : BuyI w wr A n cap keep Bb Bf Bt f g) (i : Nat) (v : Int) : BuyI w (wr.setCell ⟨Bt, i, none⟩ (.int .i64 v)) A n cap keep Bb Bf Bt f (upd g i v) :=
  { h with
    bl := h.bl.setCell (by have := h.lt; simp; omega) _
    x0 := (World.cell?_setCell_other wr ⟨Bt, i, none⟩ _ _ (by have := h.lt; intro e; injection e; omega)).trans h.x0
    x1 := (World.cell?_setCell_other wr ⟨Bt, i, none⟩ _ _ (by have := h.lt; intro e; injection e; omega)).trans h.x1
    R := h.R.other (by have := h.lt; simp; omega) _
    B := h.B.other h.nbt _
    F := h.F.other h.nft _
    G := by have := h.G.set i v; rwa [tab_set] at this }
theorem BuyI.f_at (h : BuyI w wr A n cap keep Bb Bf Bt f g) {i : Nat} (hi : i ≤ n) : wr.cell? ⟨Bf, i, none⟩ = some (.int .i64 (f i)) := h.F.cell (tab_get f (by omega))
theorem BuyI.g_at (h : BuyI w wr A n cap keep Bb Bf Bt f g) {i : Nat} (hi : i ≤ n) : wr.cell? ⟨Bt, i, none⟩ = some (.int .i64 (g i)) := h.G.cell (tab_get g (by omega))
theorem BuyI.b0 (h : BuyI w wr A n cap keep Bb Bf Bt f g) : wr.cell? ⟨Bb, 0, none⟩ = some (.slice A n cap) := h.B.cell rfl
theorem BuyI.b1 (h : BuyI w wr A n cap keep Bb Bf Bt f g) : wr.cell? ⟨Bb, 1, none⟩ = some (.int .i64 keep) := h.B.cell rfl
theorem BuyI.b2 (h : BuyI w wr A n cap keep Bb Bf Bt f g) : wr.cell? ⟨Bb, 2, none⟩ = some (.slice (some ⟨Bf, 0, none⟩) (n + 1) (n + 1)) := h.B.cell rfl
theorem BuyI.b3 (h : BuyI w wr A n cap keep Bb Bf Bt f g) : wr.cell? ⟨Bb, 3, none⟩ = some (.slice (some ⟨Bt, 0, none⟩) (n + 1) (n + 1)) := h.B.cell rfl
end

theorem BuyI.start {w W W3 : World} {A : Option Addr} {n cap : Nat} {keep : Int} {Bb Bf Bt : Nat}
    (hW : W = ((w.alloc (.cells #[.slice A n cap, .int .i64 keep] 121)).alloc (.cells #[.slice none 0 0, .int .i64 0, .slice none 0 0, .slice none 0 0] 150)).drew)
    (hb : Below W.heap.size W W3) (nbf : Bb ≠ Bf) (nbt : Bb ≠ Bt) (nft : Bf ≠ Bt) (lb : W.heap.size ≤ Bb) (lf : W.heap.size ≤ Bf) (lt : W.heap.size ≤ Bt)
    (B : Blk W3 Bb 150 [.slice A n cap, .int .i64 keep, .slice (some ⟨Bf, 0, none⟩) (n + 1) (n + 1), .slice (some ⟨Bt, 0, none⟩) (n + 1) (n + 1)])
    (F : IArr W3 Bf 3 (tab (n + 1) fun _ => 0)) (G : IArr W3 Bt 3 (tab (n + 1) fun _ => 0)) : BuyI w W3 A n cap keep Bb Bf Bt (fun _ => 0) (fun _ => 0) := by
  have h0 : W.heap.size = w.heap.size + 2 := by rw [hW]; simp
  have hw : Below w.heap.size w W := by rw [hW]; exact ((ext_alloc w _).alloc (by simp) _).drew
  have h1 : W.cell? ⟨w.heap.size, 0, none⟩ = some (.slice A n cap) := by rw [hW]; simp
  have h2 : W.cell? ⟨w.heap.size, 1, none⟩ = some (.int .i64 keep) := by rw [hW]; simp
  have h3 : Blk W (w.heap.size + 1) 150 [.slice none 0 0, .int .i64 0, .slice none 0 0, .slice none 0 0] := by
    rw [hW]
    have := (Blk.new (w.alloc (.cells #[.slice A n cap, .int .i64 keep] 121)) 150 [.slice none 0 0, .int .i64 0, .slice none 0 0, .slice none 0 0]).drew
    simpa using this
  exact { bl := ext_trans hw hb, nbf, nbt, nft, lb := by omega, lf := by omega, lt := by omega, B, F, G, x0 := cell_ext h1 hb, x1 := cell_ext h2 hb, R := h3.ext hb }

theorem BuyI.fin {w wr : World} {A : Option Addr} {n cap : Nat} {keep : Int} {Bb Bf Bt : Nat} {f g : Nat → Int} (h : BuyI w wr A n cap keep Bb Bf Bt f g) (v0 v1 v2 v3 : Value) :
    ∃ W, (((wr.setCell ⟨w.heap.size + 1, 0, none⟩ v0).setCell ⟨w.heap.size + 1, 1, none⟩ v1).setCell ⟨w.heap.size + 1, 2, none⟩ v2).setCell ⟨w.heap.size + 1, 3, none⟩ v3 = W ∧
      Below w.heap.size w W ∧ IArr W Bf 3 (tab (n + 1) f) ∧ IArr W Bt 3 (tab (n + 1) g) ∧ Blk W (w.heap.size + 1) 150 [v0, v1, v2, v3] := by
  have l1 := h.lf
  have l2 := h.lt
  refine ⟨_, rfl, (((h.bl.setCell (by simp) _).setCell (by simp) _).setCell (by simp) _).setCell (by simp) _, ?_, ?_, ?_⟩
  · exact (((h.F.other (by simp; omega) _).other (by simp; omega) _).other (by simp; omega) _).other (by simp; omega) _
  · exact (((h.G.other (by simp; omega) _).other (by simp; omega) _).other (by simp; omega) _).other (by simp; omega) _
  · exact (((h.R.set 0 v0).set 1 v1).set 2 v2).set 3 v3

theorem info3 : (Try.prog.info? 3).map (fun i => (i.zero, i.size, i.bytes)) = some (some (.int .i64 0), 1, 8) := by kernel_rfl
theorem mk24 (x : Int) (h0 : 0 ≤ x) (h1 : x ≤ 1000000000000) (w : World) :
    (Instr.makeSlice 59 (.int .i64 x) (.int .i64 x)).run Try.prog w = .ok (.slice (some ⟨w.heap.size, 0, none⟩) x.toNat x.toNat) (w.alloc (.cells ((tab x.toNat fun _ => 0).map (Value.int .i64)).toArray 3)) := by
  obtain ⟨i0, hi, hz0, hz1, hz2⟩ := info_parts info3
  exact run_mk Try.underlying59 hi hz0 hz1 hz2 x h0 h1 w

/-- What buy hands back. -/
def BuyPost (r : Rd) (A : Option Addr) (n cap : Nat) (w : World) (e : Ending) (w' : World) : Prop :=
  ∃ Bf Bt : Nat, e = .returned (.agg #[.slice A n cap, .int .i64 r.keep, .slice (some ⟨Bf, 0, none⟩) (n + 1) (n + 1), .slice (some ⟨Bt, 0, none⟩) (n + 1) (n + 1)]) ∧
    Below w.heap.size w w' ∧ IArr w' Bf 3 (tab (n + 1) r.frm) ∧ IArr w' Bt 3 (tab (n + 1) r.tbl) ∧ w.heap.size ≤ Bf ∧ w.heap.size ≤ Bt ∧ Bf ≠ Bt

set_option maxRecDepth 100000 in
set_option maxHeartbeats 4000000 in
theorem buy_any (r : Rd) (A : Option Addr) (n cap : Nat) (w : World) (hok : r.ok) (hn : r.days.length = n) (hcap : n ≤ cap) (hd : RdAt w A r) :
    Calls Try.prog 72 #[.agg #[.slice A n cap, .int .i64 r.keep]] w (BuyPost r A n cap w) := by
  have hn30 := hok.1
  obtain ⟨b, off, rfl, -, -, -, -, -⟩ := hd.day (k := 0) (by omega)
  have hmk := fun w => mk24 ((n : Int) + 1) (by omega) (by omega) w
  go_enter Try.func72, Try.ntmps72
  go_wp2
  go_cut [4] (fun t4 W => ∃ Bb Bf Bt, t4 = .pointer (some ⟨Bb, 0, none⟩) ∧ BuyI w W (some ⟨b, off, none⟩) n cap r.keep Bb Bf Bt (fun _ => 0) (fun _ => 0))
  case first =>
    refine Dr.wp_region_plan 9 [] (.q [0, 1, 2, 4, 5] (.e3 3 (.e2 6 (.q [7] (.e1 8 .done)) 8 (.e1 6 (.q [7] .done))) 6 (.e2 3 (.q [7] (.e1 8 .done)) 8 (.e1 3 (.q [7] .done))) 8 (.e2 3 (.e1 6 (.q [7] .done)) 6 (.e1 3 (.q [7] .done))))) (by kernel_rfl) (by kernel_rfl) ?_
    generalize hW : World.drew _ = W
    have q0 := Dr.cell0 (w := W) (a := ⟨w.heap.size, 0, none⟩) (v := .slice (some ⟨b, off, none⟩) n cap) (by rw [← hW]; simp)
    have q1 := Dr.cell0 (w := W) (a := ⟨w.heap.size, 1, none⟩) (v := .int .i64 r.keep) (by rw [← hW]; simp)
    have HW := Lib.hid hW
    clear hW
    refine Dr.plan_q (l := [_, _, _, _, _]) rfl (fun K hK => ?_)
    iterate 5 (go_big_quiet_step (fail))
    refine wpQuiet_nil (hK _ ?_); clear hK K
    refine Dr.plan_e3 ?_ ?_ ?_
    · refine Dr.plan_e rfl (by rfl) (fun K hK => ?_)
      go_wp2_with fail
      refine hK _ _ (.of (ext_alloc _ _)) ?_; clear hK K
      refine Dr.plan_e2 ?_ ?_
      · refine Dr.plan_e rfl (by rfl) (fun K hK => ?_)
        go_wp2_with fail
        refine hK _ _ (.of (ext_alloc _ _)) ?_; clear hK K
        refine Dr.plan_q (l := [_]) rfl (fun K hK => ?_)
        iterate 1 (go_big_quiet_step (fail))
        refine wpQuiet_nil (hK _ ?_); clear hK K
        refine Dr.plan_e rfl (by rfl) (fun K hK => ?_)
        go_wp2_with fail
        refine hK _ _ (.of (ext_alloc _ _)) ?_; clear hK K
        refine Dr.plan_done (tl := [_]) rfl ?_
        go_wp2
        go_meet
        case rel => exact ⟨W.heap.size + 1 + 1, W.heap.size, W.heap.size + 1, rfl, BuyI.start HW.out.symm (((ext_alloc W _).alloc (by simp) _).alloc (by simp; omega) _) (by omega) (by omega) (by omega) (by omega) (by omega) (by omega) (push3_2 W.heap _ _ _) (push3_0 W.heap _ _ _) (push3_1 W.heap _ _ _)⟩
      · refine Dr.plan_e rfl (by rfl) (fun K hK => ?_)
        go_wp2_with fail
        refine hK _ _ (.of (ext_alloc _ _)) ?_; clear hK K
        refine Dr.plan_e rfl (by rfl) (fun K hK => ?_)
        go_wp2_with fail
        refine hK _ _ (.of (ext_alloc _ _)) ?_; clear hK K
        refine Dr.plan_q (l := [_]) rfl (fun K hK => ?_)
        iterate 1 (go_big_quiet_step (fail))
        refine wpQuiet_nil (hK _ ?_); clear hK K
        refine Dr.plan_done (tl := [_]) rfl ?_
        go_wp2
        go_meet
        case rel => exact ⟨W.heap.size + 1, W.heap.size, W.heap.size + 1 + 1, rfl, BuyI.start HW.out.symm (((ext_alloc W _).alloc (by simp) _).alloc (by simp; omega) _) (by omega) (by omega) (by omega) (by omega) (by omega) (by omega) (push3_1 W.heap _ _ _) (push3_0 W.heap _ _ _) (push3_2 W.heap _ _ _)⟩
    · refine Dr.plan_e rfl (by rfl) (fun K hK => ?_)
      go_wp2_with fail
      refine hK _ _ (.of (ext_alloc _ _)) ?_; clear hK K
      refine Dr.plan_e2 ?_ ?_
      · refine Dr.plan_e rfl (by rfl) (fun K hK => ?_)
        go_wp2_with fail
        refine hK _ _ (.of (ext_alloc _ _)) ?_; clear hK K
        refine Dr.plan_q (l := [_]) rfl (fun K hK => ?_)
        iterate 1 (go_big_quiet_step (fail))
        refine wpQuiet_nil (hK _ ?_); clear hK K
        refine Dr.plan_e rfl (by rfl) (fun K hK => ?_)
        go_wp2_with fail
        refine hK _ _ (.of (ext_alloc _ _)) ?_; clear hK K
        refine Dr.plan_done (tl := [_]) rfl ?_
        go_wp2
        go_meet
        case rel => exact ⟨W.heap.size + 1 + 1, W.heap.size + 1, W.heap.size, rfl, BuyI.start HW.out.symm (((ext_alloc W _).alloc (by simp) _).alloc (by simp; omega) _) (by omega) (by omega) (by omega) (by omega) (by omega) (by omega) (push3_2 W.heap _ _ _) (push3_1 W.heap _ _ _) (push3_0 W.heap _ _ _)⟩
      · refine Dr.plan_e rfl (by rfl) (fun K hK => ?_)
        go_wp2_with fail
        refine hK _ _ (.of (ext_alloc _ _)) ?_; clear hK K
        refine Dr.plan_e rfl (by rfl) (fun K hK => ?_)
        go_wp2_with fail
        refine hK _ _ (.of (ext_alloc _ _)) ?_; clear hK K
        refine Dr.plan_q (l := [_]) rfl (fun K hK => ?_)
        iterate 1 (go_big_quiet_step (fail))
        refine wpQuiet_nil (hK _ ?_); clear hK K
        refine Dr.plan_done (tl := [_]) rfl ?_
        go_wp2
        go_meet
        case rel => exact ⟨W.heap.size + 1, W.heap.size + 1 + 1, W.heap.size, rfl, BuyI.start HW.out.symm (((ext_alloc W _).alloc (by simp) _).alloc (by simp; omega) _) (by omega) (by omega) (by omega) (by omega) (by omega) (by omega) (push3_1 W.heap _ _ _) (push3_2 W.heap _ _ _) (push3_0 W.heap _ _ _)⟩
    · refine Dr.plan_e rfl (by rfl) (fun K hK => ?_)
      go_wp2_with fail
      refine hK _ _ (.of (ext_alloc _ _)) ?_; clear hK K
      refine Dr.plan_e2 ?_ ?_
      · refine Dr.plan_e rfl (by rfl) (fun K hK => ?_)
        go_wp2_with fail
        refine hK _ _ (.of (ext_alloc _ _)) ?_; clear hK K
        refine Dr.plan_e rfl (by rfl) (fun K hK => ?_)
        go_wp2_with fail
        refine hK _ _ (.of (ext_alloc _ _)) ?_; clear hK K
        refine Dr.plan_q (l := [_]) rfl (fun K hK => ?_)
        iterate 1 (go_big_quiet_step (fail))
        refine wpQuiet_nil (hK _ ?_); clear hK K
        refine Dr.plan_done (tl := [_]) rfl ?_
        go_wp2
        go_meet
        case rel => exact ⟨W.heap.size, W.heap.size + 1, W.heap.size + 1 + 1, rfl, BuyI.start HW.out.symm (((ext_alloc W _).alloc (by simp) _).alloc (by simp; omega) _) (by omega) (by omega) (by omega) (by omega) (by omega) (by omega) (push3_0 W.heap _ _ _) (push3_1 W.heap _ _ _) (push3_2 W.heap _ _ _)⟩
      · refine Dr.plan_e rfl (by rfl) (fun K hK => ?_)
        go_wp2_with fail
        refine hK _ _ (.of (ext_alloc _ _)) ?_; clear hK K
        refine Dr.plan_e rfl (by rfl) (fun K hK => ?_)
        go_wp2_with fail
        refine hK _ _ (.of (ext_alloc _ _)) ?_; clear hK K
        refine Dr.plan_q (l := [_]) rfl (fun K hK => ?_)
        iterate 1 (go_big_quiet_step (fail))
        refine wpQuiet_nil (hK _ ?_); clear hK K
        refine Dr.plan_done (tl := [_]) rfl ?_
        go_wp2
        go_meet
        case rel => exact ⟨W.heap.size, W.heap.size + 1 + 1, W.heap.size + 1, rfl, BuyI.start HW.out.symm (((ext_alloc W _).alloc (by simp) _).alloc (by simp; omega) _) (by omega) (by omega) (by omega) (by omega) (by omega) (by omega) (push3_0 W.heap _ _ _) (push3_2 W.heap _ _ _) (push3_1 W.heap _ _ _)⟩
  case rest =>
    obtain ⟨Bb, Bf, Bt, rfl, hI⟩ := hcut
    clear hmk
    go_wp2
    go_loopw [5, 6] (fun x _ wr => ∃ (m : Nat) (t : Int), m ≤ n ∧ x = .int .i64 t ∧ Hid (t = n - 1 - m) ∧ BuyI w wr (some ⟨b, off, none⟩) n cap r.keep Bb Bf Bt (r.rows m).1 (r.rows m).2) (fun x _ _ => (intOf x + 1).toNat)
    case atStart => exact ⟨0, _, by omega, rfl, Lib.hid (by simp), hI⟩
    case round =>
      clear hI
      obtain ⟨m, x, hm, rfl, Hx, hI⟩ := hrel
      by_cases hlt : m < n
      · obtain ⟨t, rfl⟩ : ∃ t : Nat, x = t := ⟨n - 1 - m, by rw [Hx.out]; omega⟩
        have htm : n - 1 - m = t := by have := Hx.out; omega
        have htn : (t : Int) < n := by have := Hx.out; omega
        have ht0 : (0 : Int) ≤ t := by omega
        have ht1 : (t : Int) < (n : Int) + 1 := by omega
        have hrows := r.rows_bd hok m (by omega)
        have hrow1 : r.rows (m + 1) = (upd (r.rows m).1 t (r.fromAt t (r.rows m).1), upd (r.rows m).2 t (r.tabAt t (r.fromAt t (r.rows m).1) (r.rows m).2)) := by
          show (_, _) = _
          rw [hn, htm]
        generalize hf : (r.rows m).1 = f at *
        generalize hg : (r.rows m).2 = g at *
        have Hrow1 := Lib.hid hrow1
        have Hrows := Lib.hid hrows
        have Htm := Lib.hid htm
        clear hrow1 htm hf hg hrows
        go_wp2
        refine Dr.wp_region_plan 9 [Bf] (.q [0, 1, 2, 3, 4, 5, 6] (.e1 7 (.q [8] .done))) (by kernel_rfl) (by kernel_rfl) ?_
        generalize hW : World.drew _ = W
        have hI1 : BuyI w W (some ⟨b, off, none⟩) n cap r.keep Bb Bf Bt f g := by rw [← hW]; exact hI.ext (ext_drew _)
        clear hW hI
        have hnb : Bb ∉ [Bf] := by simp [hI1.nbf]
        have q2 := Dr.cls_cell (M := [Bf]) hI1.b2 hnb
        have q3 := Dr.cls_cell (M := [Bf]) hI1.b3 hnb
        have hl2 := hI1.lf
        refine Dr.plan_q (l := [_, _, _, _, _, _, _]) rfl (fun K hK => ?_)
        iterate 7 (go_big_quiet_step (fail))
        refine wpQuiet_nil (hK _ ?_); clear hK K
        have c1 := hI1.f_at (i := t) (by omega)
        have c2 := hI1.F.free t
        refine Dr.plan_e rfl (by rfl) (fun K hK => ?_)
        go_wp2_with fail
        have hI2 := hI1.setF t 1000000000
        refine hK _ _ (Dr.Bel.store (by simp) _) ?_; clear hK K
        clear hI1 q2 q3 c1 c2
        generalize W.setCell ⟨Bf, t, none⟩ (.int .i64 1000000000) = W2 at *
        refine Dr.plan_q (l := [_]) rfl (fun K hK => ?_)
        iterate 1 (go_big_quiet_step (fail))
        refine wpQuiet_nil (hK _ ?_); clear hK K
        refine Dr.plan_done (tl := [_]) rfl ?_
        have c1 := hI2.g_at (i := t) (by omega)
        have c2 := hI2.G.free t
        go_upto_region 7 with fail
        have hI3 := hI2.setG t 1000000000
        clear hI2 c1 c2
        generalize W2.setCell ⟨Bt, t, none⟩ (.int .i64 1000000000) = W3 at *
        obtain ⟨b', off', e', _, d0, d1, d2, d3⟩ := (hd.ext hI3.bl).day (k := t) (by omega)
        cases e'
        have x0 := hI3.x0
        have x1 := hI3.x1
        have hl3 := hI3.lb
        go_upto_if 37 with fail
        go_cut [6] (fun _ W => BuyI w W (some ⟨b, off, none⟩) n cap r.keep Bb Bf Bt (upd f t (r.fromAt t f)) (upd g t 1000000000))
        case first =>
          cases hop : (r.day t).opn
          · go_wp2
            go_meet
            case rel => rw [show r.fromAt t f = 1000000000 by unfold Rd.fromAt; rw [hop]; rfl]; exact hI3
          · have Hop := Lib.hid hop
            go_wp2
            clear hop
            go_loopw [6] (fun s wr => ∃ (s' k : Nat) (acc : Int), s = .int .i64 s' ∧ Hid (s' + k = n + 1) ∧ (s' ≤ n + 1 ∧ t + 1 ≤ s') ∧ (0 ≤ acc ∧ acc ≤ 1000000000) ∧ Hid (r.scan t f k s' acc = r.fromAt t f) ∧ BuyI w wr (some ⟨b, off, none⟩) n cap r.keep Bb Bf Bt (upd f t acc) (upd g t 1000000000)) (fun s _ => (n + 2 - (intOf s).toNat))
            case atStart => exact ⟨t + 1, n - t, 1000000000, by go_num, Lib.hid (by omega), by omega, by omega, Lib.hid (by unfold Rd.fromAt; rw [Hop.out, hn]; rfl), hI3⟩
            case round =>
              clear hI3 x0 x1 d0 d1 d2 d3
              obtain ⟨s, k, acc, rfl, Hk, hs1, hacc, Hsc, hI4⟩ := hrel
              by_cases hsn : s ≤ n
              · have hsn' : (s : Int) ≤ n := by omega
                have x0 := hI4.x0
                have x1 := hI4.x1
                have hfe := feeds_any r (some ⟨b, off, none⟩) n cap t s _ hok hn hcap (by omega) (by omega) (hd.ext hI4.bl)
                cases hq : r.feeds t s
                · rw [hq] at hfe
                  have Hfe := Lib.hid hfe
                  have Hq := Lib.hid hq
                  clear hfe hq
                  go_wp2_with fail
                  refine Hfe.out.mono ?_; rintro e w1 ⟨rfl, hb1⟩
                  go_wp2
                  go_meet
                  case rel =>
                    rw [← Hsc.out, show k = (n - s) + 1 by have := Hk.out; omega]
                    unfold Rd.scan
                    rw [Hq.out, if_neg (by simp)]
                    exact hI4.ext hb1
                · rw [hq] at hfe
                  have Hfe := Lib.hid hfe
                  have Hq := Lib.hid hq
                  clear hfe hq
                  go_wp2_with fail
                  refine Hfe.out.mono ?_; rintro e w1 ⟨rfl, hb1⟩
                  go_wp2
                  refine Dr.wp_region_plan 20 [] (.q [0, 1, 2, 3, 4, 5, 6, 7, 8, 9, 10, 12, 13, 14, 15, 16] (.e1 11 (.q [17, 18, 19] .done))) (by kernel_rfl) (by kernel_rfl) ?_
                  generalize hW : World.drew _ = W
                  have hI5 := (hI4.ext hb1).ext (ext_drew w1)
                  rw [hW] at hI5
                  clear hW hI4 x0 x1 hb1
                  have q0 := Dr.cell0 hI5.x0
                  have q1 := Dr.cell0 hI5.x1
                  have q2 := Dr.cell0 hI5.b2
                  have e1 := hI5.f_at (i := t) (by omega)
                  have e2 := hI5.f_at (i := s) (by omega)
                  rw [upd_self] at e1
                  rw [upd_ne _ _ (by omega)] at e2
                  have q3 := Dr.cell0 e1
                  have q4 := Dr.cell0 e2
                  have hs0 : (0 : Int) ≤ s := by omega
                  have hs2 : (s : Int) < (n : Int) + 1 := by omega
                  refine Dr.plan_q (l := [_, _, _, _, _, _, _, _, _, _, _, _, _, _, _, _]) rfl (fun K hK => ?_)
                  iterate 16 (go_big_quiet_step (fail))
                  refine wpQuiet_nil (hK _ ?_); clear hK K
                  refine Dr.plan_e rfl (by rfl) (fun K hK => ?_)
                  go_wp2_with fail
                  refine (price_any r (some ⟨b, off, none⟩) n cap t s _ hok hn hcap (by omega) (by omega) (hd.ext hI5.bl)).mono ?_; rintro e w2 ⟨rfl, hb2⟩
                  refine hK _ _ (.of hb2) ?_; clear hK K
                  have hp := r.price_nonneg hok (i := t) (by omega) s
                  have hfs := Hrows.out.1 s
                  have hI6 := hI5.ext hb2
                  clear hI5 q0 q1 q2 q3 q4 e1 e2
                  refine Dr.plan_q (l := [_, _, _]) rfl (fun K hK => ?_)
                  iterate 3 (go_big_quiet_step (fail))
                  refine wpQuiet_nil (hK _ ?_); clear hK K
                  refine Dr.plan_done (tl := [_]) rfl ?_
                  have e1 := hI6.f_at (i := t) (by omega)
                  have e2 := hI6.F.free t
                  go_upto_region 10 with fail
                  have hI7 := hI6.setF t (if r.price t s + f s < acc then r.price t s + f s else acc)
                  rw [upd_upd] at hI7
                  clear hI6 e1 e2
                  generalize w2.setCell ⟨Bf, t, none⟩ (.int .i64 (if r.price t s + f s < acc then r.price t s + f s else acc)) = W4 at *
                  rw [show (if r.price t s + f s < acc then r.price t s + f s else acc) = min acc (r.price t s + f s) by split <;> omega] at hI7
                  go_wp2
                  go_roundw
                  case rel => exact ⟨s + 1, k - 1, min acc (r.price t s + f s), by go_num, Lib.hid (by have := Hk.out; omega), by omega, by omega, Lib.hid (by
                    rw [← Hsc.out, show k = (k - 1) + 1 by have := Hk.out; omega]
                    conv => rhs; unfold Rd.scan
                    rw [Hq.out, if_pos rfl]
                    rfl), hI7⟩
                  case measure => simp [intOf]; omega
              · go_wp2
                go_meet
                case rel =>
                  rw [← Hsc.out, show k = 0 by have := Hk.out; omega]
                  exact hI4
        case rest =>
          clear hI3 x0 x1 d0 d1 d2 d3
          have hI8 := hcut
          clear hcut
          go_wp2
          refine Dr.wp_region_plan 9 [] (.q [0, 1, 2, 3, 4, 5, 6, 7, 8] .done) (by kernel_rfl) (by kernel_rfl) ?_
          generalize hW : World.drew _ = W
          have hI9 := hI8.ext (ext_drew _)
          rw [hW] at hI9
          clear hW hI8
          have q2 := Dr.cell0 hI9.b2
          have q3 := Dr.cell0 hI9.b3
          have e1 := hI9.f_at (i := t) (by omega)
          rw [upd_self] at e1
          have q4 := Dr.cell0 e1
          refine Dr.plan_q (l := [_, _, _, _, _, _, _, _, _]) rfl (fun K hK => ?_)
          iterate 9 (go_big_quiet_step (fail))
          refine wpQuiet_nil (hK _ ?_); clear hK K
          refine Dr.plan_done (tl := [_]) rfl ?_
          have e2 := hI9.g_at (i := t) (by omega)
          have e3 := hI9.G.free t
          go_upto_region 13 with fail
          have hI10 := hI9.setG t (r.fromAt t f)
          rw [upd_upd] at hI10
          clear hI9 e1 e2 e3 q2 q3 q4
          generalize W.setCell ⟨Bt, t, none⟩ (.int .i64 (r.fromAt t f)) = W5 at *
          obtain ⟨b', off', e', _, d0, d1, d2, d3⟩ := (hd.ext hI10.bl).day (k := t) (by omega)
          cases e'
          have x0 := hI10.x0
          have x1 := hI10.x1
          · by_cases hz : (r.day t).need = 0
            · have hz' : ((r.day t).need == 0) = true := by rw [hz]; rfl
              have ht : r.tabAt t (r.fromAt t f) g = min (r.fromAt t f) (g (t + 1)) := by unfold Rd.tabAt; rw [if_pos hz]
              have Ht := Lib.hid ht
              clear hz ht
              go_wp2
              refine Dr.wp_region_plan 16 [] (.q [0, 1, 2, 3, 4, 5, 6, 7, 8, 9, 10, 11, 12, 13, 14, 15] .done) (by kernel_rfl) (by kernel_rfl) ?_
              generalize hW : World.drew _ = W
              have hI11 := hI10.ext (ext_drew _)
              rw [hW] at hI11
              clear hW hI10 x0 x1 d0 d1 d2 d3
              have q3 := Dr.cell0 hI11.b3
              have e1 := hI11.g_at (i := t) (by omega)
              have e4 := hI11.g_at (i := t + 1) (by omega)
              rw [upd_self] at e1
              rw [upd_ne _ _ (by omega)] at e4
              have q4 := Dr.cell0 e1
              have q5 := Dr.cell0 e4
              have hs0 : (0 : Int) ≤ (t : Int) + 1 := by omega
              have hs2 : (t : Int) + 1 < (n : Int) + 1 := by omega
              have hfr := r.fromAt_bd hok (t := t) (by omega) Hrows.out.1
              refine Dr.plan_q (l := [_, _, _, _, _, _, _, _, _, _, _, _, _, _, _, _]) rfl (fun K hK => ?_)
              iterate 16 (go_big_quiet_step (fail))
              refine wpQuiet_nil (hK _ ?_); clear hK K
              refine Dr.plan_done (tl := [_]) rfl ?_
              have e3 := hI11.G.free t
              clear q3 q4 q5 e4
              go_wp2
              have hI13 := hI11.setG t (if g (t + 1) < r.fromAt t f then g (t + 1) else r.fromAt t f)
              rw [upd_upd] at hI13
              generalize W.setCell ⟨Bt, t, none⟩ (.int .i64 (if g (t + 1) < r.fromAt t f then g (t + 1) else r.fromAt t f)) = W6 at *
              rw [show (if g (t + 1) < r.fromAt t f then g (t + 1) else r.fromAt t f) = r.tabAt t (r.fromAt t f) g by rw [Ht.out]; split <;> omega] at hI13
              go_roundw
              case measure => simp [intOf]
              case rel => exact ⟨m + 1, _, by omega, rfl, Lib.hid (by rw [Hx.out]; omega), by rw [Hrow1.out]; exact hI13⟩
            · have hz' : ((r.day t).need == 0) = false := by simpa using hz
              have ht : r.tabAt t (r.fromAt t f) g = r.fromAt t f := by unfold Rd.tabAt; rw [if_neg hz]
              have Ht := Lib.hid ht
              clear hz ht
              go_wp2
              go_roundw
              case measure => simp [intOf]
              case rel => exact ⟨m + 1, _, by omega, rfl, Lib.hid (by rw [Hx.out]; omega), by rw [Hrow1.out, Ht.out]; exact hI10⟩
      · obtain rfl : m = n := by omega
        have hx : x = -1 := by rw [Hx.out]; omega
        subst hx
        clear Hx
        have e0 := hI.b0
        have e1 := hI.b1
        have e2 := hI.b2
        have e3 := hI.b3
        have r0 : wr.cell? ⟨w.heap.size + 1, 0, none⟩ = some (.slice none 0 0) := hI.R.cell rfl
        have r1 : wr.cell? ⟨w.heap.size + 1, 1, none⟩ = some (.int .i64 0) := hI.R.cell rfl
        have r2 : wr.cell? ⟨w.heap.size + 1, 2, none⟩ = some (.slice none 0 0) := hI.R.cell rfl
        have r3 : wr.cell? ⟨w.heap.size + 1, 3, none⟩ = some (.slice none 0 0) := hI.R.cell rfl
        have z0 := hI.R.free 0
        have z1 := hI.R.free 1
        have z2 := hI.R.free 2
        have z3 := hI.R.free 3
        go_wp2
        obtain ⟨W, hW, hb, hF, hG, hR⟩ := hI.fin (.slice (some ⟨b, off, none⟩) m cap) (.int .i64 r.keep) (.slice (some ⟨Bf, 0, none⟩) (m + 1) (m + 1)) (.slice (some ⟨Bt, 0, none⟩) (m + 1) (m + 1))
        rw [hW]
        have s0 : W.cell? ⟨w.heap.size + 1, 0, none⟩ = _ := hR.cell rfl
        have s1 : W.cell? ⟨w.heap.size + 1, 1, none⟩ = _ := hR.cell rfl
        have s2 : W.cell? ⟨w.heap.size + 1, 2, none⟩ = _ := hR.cell rfl
        have s3 : W.cell? ⟨w.heap.size + 1, 3, none⟩ = _ := hR.cell rfl
        have hlf := hI.lf
        have hlt' := hI.lt
        have hft := hI.nft
        have hfr : (r.rows m).1 = r.frm := by unfold Rd.frm; rw [hn]
        have htb : (r.rows m).2 = r.tbl := by unfold Rd.tbl; rw [hn]
        rw [hfr] at hF
        rw [htb] at hG
        clear hW hI e0 e1 e2 e3 r0 r1 r2 r3 z0 z1 z2 z3
        refine bodyPost_ret (v := .agg #[.slice (some ⟨b, off, none⟩) m cap, .int .i64 r.keep, .slice (some ⟨Bf, 0, none⟩) (m + 1) (m + 1), .slice (some ⟨Bt, 0, none⟩) (m + 1) (m + 1)]) (by simp [results, Try.results72, go_sem, s0, s1, s2, s3]) rfl ?_
        exact ⟨Bf, Bt, rfl, hb, hF, hG, by omega, by omega, hft⟩
end Go.Proofs.Ytilkoooahoecfaa.Yd

/- The plan that the program reads off its rows. -/
namespace Go.Yd
open Go.Pl
/-- the least number from s on, of the next k, at which p holds; else s + k -/
def firstN (p : Nat → Bool) : Nat → Nat → Nat
  | 0, s => s
  | k + 1, s => if p s then s else firstN p k (s + 1)
theorem firstN_ge (p : Nat → Bool) : ∀ k s, s ≤ firstN p k s ∧ firstN p k s ≤ s + k
  | 0, s => by simp [firstN]
  | k + 1, s => by
    unfold firstN
    split
    · omega
    · have := firstN_ge p k (s + 1); omega
theorem firstN_lt (p : Nat → Bool) : ∀ k s j, s ≤ j → j < firstN p k s → p j = false
  | 0, s, j, h1, h2 => by simp [firstN] at h2; omega
  | k + 1, s, j, h1, h2 => by
    unfold firstN at h2
    split at h2
    · omega
    · rename_i hp
      by_cases e : j = s
      · subst e; simpa using hp
      · exact firstN_lt p k (s + 1) j (by omega) h2
theorem firstN_le (p : Nat → Bool) : ∀ k s j, s ≤ j → j < s + k → p j = true → firstN p k s ≤ j ∧ p (firstN p k s) = true
  | 0, s, j, h1, h2, h3 => by omega
  | k + 1, s, j, h1, h2, h3 => by
    unfold firstN
    split
    · rename_i hp; exact ⟨h1, hp⟩
    · rename_i hp
      have hne : j ≠ s := fun e => by subst e; simp [h3] at hp
      exact firstN_le p k (s + 1) j (by omega) (by omega) h3
theorem firstN_step {p : Nat → Bool} {k s : Nat} (h : p s = false) : firstN p (k + 1) s = firstN p k (s + 1) := by
  conv => lhs; unfold firstN
  rw [h]; rfl

theorem Rd.scan_congr {r : Rd} {t : Nat} {f g : Nat → Int} : ∀ (m s : Nat) (acc : Int), (∀ i, s ≤ i → i < s + m → f i = g i) → r.scan t f m s acc = r.scan t g m s acc
  | 0, _, _, _ => rfl
  | m + 1, s, acc, h => by
    unfold Rd.scan
    rw [h s (by omega) (by omega), Rd.scan_congr m (s + 1) _ (fun i h1 h2 => h i (by omega) (by omega))]
theorem Rd.scan_le {r : Rd} {t : Nat} {f : Nat → Int} : ∀ (m s : Nat) (acc : Int), r.scan t f m s acc ≤ acc
  | 0, _, _ => Int.le_refl _
  | m + 1, s, acc => by
    unfold Rd.scan
    split
    · have := r.scan_le (t := t) (f := f) m (s + 1) (min acc (r.price t s + f s)); omega
    · exact Int.le_refl _
theorem Rd.scan_lb {r : Rd} {t : Nat} {f : Nat → Int} : ∀ (m s : Nat) (acc : Int) (j : Nat), s ≤ j → j < s + m → (∀ i, s ≤ i → i ≤ j → r.feeds t i = true) → r.scan t f m s acc ≤ r.price t j + f j
  | 0, _, _, _, _, _, _ => by omega
  | m + 1, s, acc, j, h1, h2, h3 => by
    unfold Rd.scan
    rw [if_pos (h3 s (Nat.le_refl _) h1)]
    by_cases e : j = s
    · subst e
      have := r.scan_le (t := t) (f := f) m (j + 1) (min acc (r.price t j + f j)); omega
    · exact r.scan_lb m (s + 1) _ j (by omega) (by omega) (fun i h4 h5 => h3 i (by omega) h5)
theorem Rd.scan_hit {r : Rd} {t : Nat} {f : Nat → Int} : ∀ (m s : Nat) (acc : Int), r.scan t f m s acc = acc ∨ ∃ j, s ≤ j ∧ j < s + m ∧ (∀ i, s ≤ i → i ≤ j → r.feeds t i = true) ∧ r.scan t f m s acc = r.price t j + f j
  | 0, _, _ => .inl rfl
  | m + 1, s, acc => by
    unfold Rd.scan
    split
    · rename_i hf
      rcases r.scan_hit (t := t) (f := f) m (s + 1) (min acc (r.price t s + f s)) with h | ⟨j, h1, h2, h3, h4⟩
      · by_cases hm : acc ≤ r.price t s + f s
        · exact .inl (by rw [h]; omega)
        · exact .inr ⟨s, Nat.le_refl _, by omega, fun i h1 h2 => by rw [show i = s by omega]; exact hf, by rw [h]; omega⟩
      · exact .inr ⟨j, by omega, by omega, fun i h5 h6 => by
          by_cases e : i = s
          · subst e; exact hf
          · exact h3 i (by omega) h6, h4⟩
    · exact .inl rfl

theorem Rd.rows_stable (r : Rd) : ∀ (k m : Nat), m + k ≤ r.days.length → ∀ i, r.days.length - m ≤ i → (r.rows (m + k)).1 i = (r.rows m).1 i ∧ (r.rows (m + k)).2 i = (r.rows m).2 i
  | 0, m, _, i, _ => ⟨rfl, rfl⟩
  | k + 1, m, h, i, hi => by
    have ih := r.rows_stable k m (by omega) i hi
    have hne : i ≠ r.days.length - 1 - (m + k) := by omega
    rw [show m + (k + 1) = (m + k) + 1 from rfl]
    constructor
    · exact (upd_ne _ _ hne).trans ih.1
    · exact (upd_ne _ _ hne).trans ih.2
theorem Rd.frm_row (r : Rd) {m i : Nat} (hm : m ≤ r.days.length) (hi : r.days.length - m ≤ i) : r.frm i = (r.rows m).1 i := by
  have := (r.rows_stable (r.days.length - m) m (by omega) i hi).1
  rwa [show m + (r.days.length - m) = r.days.length by omega] at this
theorem Rd.tbl_row (r : Rd) {m i : Nat} (hm : m ≤ r.days.length) (hi : r.days.length - m ≤ i) : r.tbl i = (r.rows m).2 i := by
  have := (r.rows_stable (r.days.length - m) m (by omega) i hi).2
  rwa [show m + (r.days.length - m) = r.days.length by omega] at this
theorem Rd.frm_eq (r : Rd) {t : Nat} (ht : t < r.days.length) : r.frm t = r.fromAt t r.frm := by
  have h1 := r.frm_row (m := r.days.length - t) (i := t) (by omega) (by omega)
  rw [h1, show r.days.length - t = (r.days.length - 1 - t) + 1 by omega]
  show upd _ _ _ t = _
  rw [show r.days.length - 1 - (r.days.length - 1 - t) = t by omega, upd_self]
  unfold Rd.fromAt
  split
  · exact r.scan_congr _ _ _ (fun i h2 h3 => (r.frm_row (m := r.days.length - 1 - t) (by omega) (by omega)).symm)
  · rfl
theorem Rd.tbl_eq (r : Rd) {t : Nat} (ht : t < r.days.length) : r.tbl t = r.tabAt t (r.frm t) r.tbl := by
  have h1 := r.tbl_row (m := r.days.length - t) (i := t) (by omega) (by omega)
  have h2 := r.frm_row (m := r.days.length - t) (i := t) (by omega) (by omega)
  have h3 := r.tbl_row (m := r.days.length - 1 - t) (i := t + 1) (by omega) (by omega)
  rw [h1, h2, show r.days.length - t = (r.days.length - 1 - t) + 1 by omega]
  show upd _ _ _ t = r.tabAt t (upd _ _ _ t) _
  rw [show r.days.length - 1 - (r.days.length - 1 - t) = t by omega, upd_self, upd_self]
  unfold Rd.tabAt
  rw [h3]
theorem Rd.frm_end (r : Rd) : r.frm r.days.length = 0 := by rw [r.frm_row (m := 0) (by omega) (by omega)]; rfl
theorem Rd.tbl_end (r : Rd) : r.tbl r.days.length = 0 := by rw [r.tbl_row (m := 0) (by omega) (by omega)]; rfl
theorem Rd.frm_bd {r : Rd} (h : r.ok) (i : Nat) : 0 ≤ r.frm i ∧ r.frm i ≤ 1000000000 := (r.rows_bd h _ (Nat.le_refl _)).1 i
theorem Rd.tbl_bd {r : Rd} (h : r.ok) (i : Nat) : 0 ≤ r.tbl i ∧ r.tbl i ≤ 1000000000 := (r.rows_bd h _ (Nat.le_refl _)).2 i
/-- what is on the table on a day is what is planned from a day on which nothing was needed before -/
theorem Rd.tbl_hit (r : Rd) : ∀ (k t : Nat), t + k = r.days.length → ∃ s, t ≤ s ∧ s ≤ r.days.length ∧ r.frm s = r.tbl t ∧ ∀ j, t ≤ j → j < s → (r.day j).need = 0
  | 0, t, h => ⟨t, Nat.le_refl _, by omega, by rw [show t = r.days.length by omega, r.frm_end, r.tbl_end], fun j h1 h2 => by omega⟩
  | k + 1, t, h => by
    have h1 := r.tbl_eq (t := t) (by omega)
    unfold Rd.tabAt at h1
    split at h1
    · rename_i hz
      by_cases hm : r.frm t ≤ r.tbl (t + 1)
      · exact ⟨t, Nat.le_refl _, by omega, by omega, fun j h2 h3 => by omega⟩
      · obtain ⟨s, h2, h3, h4, h5⟩ := r.tbl_hit k (t + 1) (by omega)
        exact ⟨s, by omega, h3, by omega, fun j h6 h7 => by
          by_cases e : j = t
          · rw [e]; exact hz
          · exact h5 j (by omega) h7⟩
    · exact ⟨t, Nat.le_refl _, by omega, h1.symm, fun j h2 h3 => by omega⟩
theorem Rd.need_day (r : Rd) {i j : Nat} (h : i < j) (hj : j ≤ r.days.length) : r.need i j = (r.day i).need + r.need (i + 1) j := by
  unfold Rd.need
  rw [show j - i = (j - (i + 1)) + 1 by omega, List.drop_eq_getElem_cons (show i < r.days.length by omega), List.take_succ_cons, List.map_cons]
  show r.days[i].need + _ = _
  rw [r.day_get (by omega)]
theorem Rd.need_zero (r : Rd) : ∀ (k i : Nat), i + k ≤ r.days.length → (∀ j, i ≤ j → j < i + k → (r.day j).need = 0) → r.need i (i + k) = 0
  | 0, i, _, _ => by unfold Rd.need; simp [isum]
  | k + 1, i, h, hz => by
    rw [r.need_day (by omega) h, hz i (by omega) (by omega), show i + (k + 1) = (i + 1) + k by omega, r.need_zero k (i + 1) (by omega) (fun j h1 h2 => hz j (by omega) (by omega))]
    rfl
/-- a day from which all can be planned has a next one -/
theorem Rd.next_ex {r : Rd} {t : Nat} (ht : t < r.days.length) (hf : r.frm t < 1000000000) :
    (r.day t).opn = true ∧ ∃ j, t + 1 ≤ j ∧ j ≤ r.days.length ∧ (∀ i, t + 1 ≤ i → i ≤ j → r.feeds t i = true) ∧ r.price t j + r.frm j = r.frm t := by
  have h1 := r.frm_eq ht
  unfold Rd.fromAt at h1
  split at h1
  · rename_i ho
    refine ⟨ho, ?_⟩
    rcases r.scan_hit (t := t) (f := r.frm) (r.days.length - t) (t + 1) 1000000000 with h2 | ⟨j, h2, h3, h4, h5⟩
    · omega
    · exact ⟨j, h2, by omega, h4, by omega⟩
  · omega
def Rd.nextP (r : Rd) (t s : Nat) : Bool := r.price t s + r.frm s == r.frm t
def Rd.next (r : Rd) (t : Nat) : Nat := firstN (r.nextP t) (r.days.length - t) (t + 1)
theorem Rd.next_spec {r : Rd} (h : r.ok) {t : Nat} (ht : t < r.days.length) (hf : r.frm t < 1000000000) :
    t + 1 ≤ r.next t ∧ r.next t ≤ r.days.length ∧ r.nextP t (r.next t) = true ∧ r.frm (r.next t) < 1000000000 := by
  obtain ⟨_, j, h1, h2, _, h4⟩ := r.next_ex ht hf
  have h5 := firstN_le (r.nextP t) (r.days.length - t) (t + 1) j h1 (by omega) (by unfold Rd.nextP; simpa using h4)
  have h6 := firstN_ge (r.nextP t) (r.days.length - t) (t + 1)
  have h7 : r.price t (r.next t) + r.frm (r.next t) = r.frm t := by have := h5.2; unfold Rd.nextP at this; unfold Rd.next Rd.nextP; simpa using this
  have h8 := r.price_nonneg h ht (r.next t)
  exact ⟨h6.1, by have := h5.1; unfold Rd.next; omega, h5.2, by omega⟩
/-- the purchases from day t on -/
def Rd.chain (r : Rd) : Nat → Nat → List Nat
  | 0, t => [t]
  | k + 1, t => if r.feeds t r.days.length && (r.price t r.days.length == r.frm t) then [t] else if r.next t = r.days.length then [t] else t :: r.chain k (r.next t)
def Rd.first (r : Rd) : Nat := firstN (fun t => r.frm t == r.tbl 0) (r.days.length + 1) 0
def Rd.planN (r : Rd) : List Nat := if r.tbl 0 = 0 ∧ r.need 0 r.days.length = 0 then [] else r.chain r.days.length r.first
theorem Rd.first_spec {r : Rd} (hz : ¬ (r.tbl 0 = 0 ∧ r.need 0 r.days.length = 0)) : r.first < r.days.length ∧ r.frm r.first = r.tbl 0 := by
  obtain ⟨s, h1, h2, h3, h4⟩ := r.tbl_hit r.days.length 0 (by omega)
  have hs : s < r.days.length := by
    rcases Nat.lt_or_ge s r.days.length with h | h
    · exact h
    · exfalso
      have e : s = r.days.length := by omega
      subst e
      refine hz ⟨by rw [← h3, r.frm_end], ?_⟩
      have := r.need_zero r.days.length 0 (by omega) (fun j h5 h6 => h4 j h5 (by omega))
      simpa using this
  have h5 := firstN_le (fun t => r.frm t == r.tbl 0) (r.days.length + 1) 0 s h1 (by omega) (by simpa using h3)
  exact ⟨by have := h5.1; unfold Rd.first; omega, by unfold Rd.first; simpa using h5.2⟩
end Go.Yd

/- Walk: plan. -/
namespace Go.Proofs.Ytilkoooahoecfaa.Yd
open Go.RowKit Go.Bs Go.Yd Go.Pl Go.Sort

def natsI (l : List Nat) : List Int := l.map Int.ofNat
theorem et24 : ElemT Try.prog 59 3 1 8 := ElemT.mk Try.underlying59 info3 rfl

def PlanPost (r : Rd) (w : World) (e : Ending) (w' : World) : Prop := ∃ v, e = .returned v ∧ FreshL w w' 1 encI v (natsI r.planN) ∧ Below w.heap.size w w'

set_option maxRecDepth 100000 in
set_option maxHeartbeats 4000000 in
theorem plan_any (r : Rd) (A : Option Addr) (n cap Bf Bt : Nat) (w : World) (hok : r.ok) (hn : r.days.length = n) (hcap : n ≤ cap) (hd : RdAt w A r) (hF : IArr w Bf 3 (tab (n + 1) r.frm)) (hG : IArr w Bt 3 (tab (n + 1) r.tbl)) (hM : r.tbl 0 < 1000000000) :
    Calls Try.prog 73 #[.agg #[.slice A n cap, .int .i64 r.keep, .slice (some ⟨Bf, 0, none⟩) (n + 1) (n + 1), .slice (some ⟨Bt, 0, none⟩) (n + 1) (n + 1)]] w (PlanPost r w) := by
  have hn30 := hok.1
  obtain ⟨W0, hW0⟩ : ∃ W0, W0 = w.alloc (.cells #[.slice A n cap, .int .i64 r.keep, .slice (some ⟨Bf, 0, none⟩) (n + 1) (n + 1), .slice (some ⟨Bt, 0, none⟩) (n + 1) (n + 1)] 150) := ⟨_, rfl⟩
  have hb0 : Below w.heap.size w W0 := by rw [hW0]; exact ext_alloc _ _
  have hs0 : W0.heap.size = w.heap.size + 1 := by rw [hW0]; simp
  have x0 : W0.cell? ⟨w.heap.size, 0, none⟩ = some (.slice A n cap) := by rw [hW0]; simp
  have x1 : W0.cell? ⟨w.heap.size, 1, none⟩ = some (.int .i64 r.keep) := by rw [hW0]; simp
  have x2 : W0.cell? ⟨w.heap.size, 2, none⟩ = some (.slice (some ⟨Bf, 0, none⟩) (n + 1) (n + 1)) := by rw [hW0]; simp
  have x3 : W0.cell? ⟨w.heap.size, 3, none⟩ = some (.slice (some ⟨Bt, 0, none⟩) (n + 1) (n + 1)) := by rw [hW0]; simp
  have hd0 := hd.ext hb0
  have hF0 := hF.ext hb0
  have hG0 := hG.ext hb0
  clear hd hF hG
  have t0 : W0.cell? ⟨Bt, 0, none⟩ = some (.int .i64 (r.tbl 0)) := hG0.cell (tab_get _ (by omega))
  have hp0 : (0 : Int) < (n : Int) + 1 := by omega
  have Hs0 := Lib.hid hs0
  have HW0 := Lib.hid hW0
  clear hs0
  go_enter Try.func73, Try.ntmps73
  go_upto_region 1 with fail
  rw [← HW0.out]
  clear hW0
  go_upto_region 2 with fail
  go_cut [21] (fun z W => z = .bool (decide (r.tbl 0 = 0 ∧ r.need 0 n = 0)) ∧ Below W0.heap.size W0 W)
  case first =>
    by_cases hz : r.tbl 0 = 0
    · have hz' : (r.tbl 0 == 0) = true := by rw [hz]; rfl
      have Hz := Lib.hid hz
      clear hz
      go_wp2_with fail
      refine (need_any r A n cap r.keep 0 (n : Int) _ hok hn hcap (by omega) (by omega) (by omega) hd0).mono ?_; rintro e w1 ⟨rfl, hb1⟩
      go_wp2
      go_meet
      case rel => exact ⟨bool_congr (by simp [Hz.out]; rfl), hb1⟩
    · have hz' : (r.tbl 0 == 0) = false := by simpa using hz
      have Hz := Lib.hid hz
      clear hz
      go_wp2
      go_meet
      case rel => exact ⟨bool_congr (by simp [Hz.out]), ext_refl _⟩
  case rest =>
    obtain ⟨rfl, hb1⟩ := hcut
    by_cases hz : r.tbl 0 = 0 ∧ r.need 0 n = 0
    · rw [decide_eq_true hz]
      have Hz := Lib.hid hz
      clear hz
      go_wp2
      go_ret
      exact ⟨_, rfl, by unfold Rd.planN; rw [if_pos (by rw [hn]; exact Hz.out)]; exact FreshL.nil _ _ _ _, ext_trans hb0 hb1⟩
    · rw [decide_eq_false hz]
      have hfst := r.first_spec (by rw [hn]; exact hz)
      have hplan : r.chain n r.first = r.planN := by unfold Rd.planN; rw [if_neg (by rw [hn]; exact hz), hn]
      have Hfst := Lib.hid hfst.2
      have hf1 := hfst.1
      have Hplan := Lib.hid hplan
      have hfn : firstN (fun t => r.frm t == r.tbl 0) (n + 1) 0 = r.first := by unfold Rd.first; rw [hn]
      have Hfn := Lib.hid hfn
      clear hz hfst hplan hfn
      have HX := Lib.hid (And.intro x0 (And.intro x1 (And.intro x2 (And.intro x3 t0))))
      clear x3 x2 x1 x0 t0
      go_wp2
      go_loopw [4] (fun x wr => ∃ s k, x = .int .i64 (s : Nat) ∧ Hid (firstN (fun t => r.frm t == r.tbl 0) k s = r.first) ∧ Hid (s + k = n + 1) ∧ s ≤ r.first ∧ Below W0.heap.size W0 wr) (fun x _ => (n + 1 - intOf x).toNat)
      case atStart => exact ⟨0, n + 1, by go_num, Lib.hid Hfn.out, Lib.hid (by omega), by omega, hb1⟩
      case round =>
        clear hb1
        obtain ⟨s, k, rfl, Hk, Hsk, hs1, hb1⟩ := hrel
        have hs0 : (0 : Int) ≤ s := by omega
        have hs2 : (s : Int) < (n : Int) + 1 := by omega
        go_wp2
        refine Dr.wp_region_plan 10 [] (.q [0, 1, 2, 3, 4, 5, 6, 7, 8, 9] .done) (by kernel_rfl) (by kernel_rfl) ?_
        generalize hW : World.drew _ = W
        have hb2 : Below W0.heap.size W0 W := by rw [← hW]; exact hb1.drew
        clear hW hb1
        have q0 := Dr.cell0 (cell_ext HX.out.1 hb2)
        have q1 := Dr.cell0 (cell_ext HX.out.2.1 hb2)
        have q2 := Dr.cell0 (cell_ext HX.out.2.2.1 hb2)
        have q3 := Dr.cell0 (cell_ext HX.out.2.2.2.1 hb2)
        have q4 := Dr.cell0 (cell_ext HX.out.2.2.2.2 hb2)
        have q5 := Dr.cell0 ((hF0.ext hb2).cell (tab_get r.frm (show s < n + 1 by omega)))
        refine Dr.plan_q (l := [_, _, _, _, _, _, _, _, _, _]) rfl (fun K hK => ?_)
        iterate 10 (go_big_quiet_step (fail))
        refine wpQuiet_nil (hK _ ?_); clear hK K
        refine Dr.plan_end rfl ?_
        clear q0 q1 q2 q3 q4 q5
        cases hq : (r.frm s != r.tbl 0)
        · have hsf : s = r.first := by
            rw [← Hk.out]
            cases k with
            | zero => rfl
            | succ k =>
              unfold firstN
              rw [if_pos (by simpa using hq)]
          clear hq Hk Hsk
          have hfrm : r.frm s < 1000000000 := by rw [hsf, Hfst.out]; exact hM
          have Hfrm := Lib.hid hfrm
          have hp0 : Hid (([] : List Nat) ++ r.chain n s = r.planN) := Lib.hid (by rw [hsf, List.nil_append, Hplan.out])
          have hsn : s < n := by omega
          clear hsf hfrm Hfst
          go_wp2_with (at_builtin; refine app1 encI 59 3 1 8 et24 (by decide) (by decide) encI_len encI_one rfl _ _ rfl W0.heap.size _ [] rfl OwnL.nil W.heap.size rfl (s : Int) (encI_cell (by simp)) (by simp) (by simp; have := hb2.size; omega) ?_; intro g' cap' w' hown hb3 _ _)
          have hb4 := ((hb2.alloc (o := .cells #[.int .i64 (s : Int)] 3) (by have := hb2.size; omega)).trans hb3)
          clear hb2 hb3
          have hown0 : OwnL w' W0.heap.size 3 1 encI (.slice (some ⟨g', 0, none⟩) 1 cap') (natsI ([] ++ [s])) := hown
          clear hown
          go_loopw [2, 4] (fun v x wr => ∃ (t : Nat) (done : List Nat) (k : Nat), x = .int .i64 t ∧ t < n ∧ Hid (n - t ≤ k) ∧ Hid (r.frm t < 1000000000) ∧ OwnL wr W0.heap.size 3 1 encI v (natsI (done ++ [t])) ∧ Hid (done ++ r.chain k t = r.planN) ∧ Hid (done.length ≤ t) ∧ Below W0.heap.size W0 wr) (fun _ x _ => (n - intOf x).toNat)
          case atStart => exact ⟨s, [], n, rfl, hsn, Lib.hid (by omega), Hfrm, hown0, hp0, Lib.hid (by simp), hb4⟩
          case round =>
            clear hown0 hb4 hp0 Hfrm hsn
            obtain ⟨t, done, k, rfl, htn, Hk, Hfrm, hown, Hp, Hlen, hb1⟩ := hrel
            have ht0 : (0 : Int) ≤ t := by omega
            have ht1 : (t : Int) < (n : Int) + 1 := by omega
            go_upto_region 8 with fail
            go_cut [55] (fun z W => z = .bool (r.feeds t n && (r.price t n == r.frm t)) ∧ Below wr.heap.size wr W)
            case first =>
              have hb2 := hb1.drew
              refine Dr.wp_region_plan 18 [] (.q [0, 1, 2, 3] (.e1 4 (.q [5, 6, 7, 8, 9, 11, 12, 13, 14, 15] (.e1 10 (.q [16, 17] .done))))) (by kernel_rfl) (by kernel_rfl) ?_
              have hbw := ext_drew wr
              generalize World.drew _ = W at *
              have q0 := Dr.cell0 (cell_ext HX.out.1 hb2)
              have q1 := Dr.cell0 (cell_ext HX.out.2.1 hb2)
              have q2 := Dr.cell0 (cell_ext HX.out.2.2.1 hb2)
              have hfe := feeds_any r A n cap t n W hok hn hcap (by omega) (by omega) (hd0.ext hb2)
              cases hq : r.feeds t n
              · rw [hq] at hfe
                have Hfe := Lib.hid hfe
                have Hq := Lib.hid hq
                clear hfe hq
                refine Dr.plan_q (l := [_, _, _, _]) rfl (fun K hK => ?_)
                iterate 4 (go_big_quiet_step (fail))
                refine wpQuiet_nil (hK _ ?_); clear hK K
                refine Dr.plan_e rfl (by rfl) (fun K hK => ?_)
                go_wp2_with fail
                refine Hfe.out.mono ?_; rintro e w1 ⟨rfl, hb3⟩
                refine hK _ _ (.of hb3) ?_; clear hK K
                refine Dr.plan_q (l := [_, _, _, _, _, _, _, _, _, _]) rfl (fun K hK => ?_)
                iterate 10 (go_big_quiet_step (fail))
                refine wpQuiet_nil (hK _ ?_); clear hK K
                refine Dr.plan_e_skip rfl (by rfl) ?_
                go_frame
                refine Dr.plan_q (l := [_, _]) rfl (fun K hK => ?_)
                iterate 2 (go_big_quiet_step (fail))
                refine wpQuiet_nil (hK _ ?_); clear hK K
                refine Dr.plan_end rfl ?_
                go_wp2
                go_meet
                case rel => exact ⟨bool_congr (by rw [Hq.out]; rfl), ext_trans hbw hb3⟩
              · rw [hq] at hfe
                have Hfe := Lib.hid hfe
                have Hq := Lib.hid hq
                clear hfe hq
                refine Dr.plan_q (l := [_, _, _, _]) rfl (fun K hK => ?_)
                iterate 4 (go_big_quiet_step (fail))
                refine wpQuiet_nil (hK _ ?_); clear hK K
                refine Dr.plan_e rfl (by rfl) (fun K hK => ?_)
                go_wp2_with fail
                refine Hfe.out.mono ?_; rintro e w1 ⟨rfl, hb3⟩
                refine hK _ _ (.of hb3) ?_; clear hK K
                have hb4 := hb2.trans (hb3.mono hb2.size)
                have hbw4 := ext_trans hbw hb3
                clear q0 q1 q2
                have q0 := Dr.cell0 (cell_ext HX.out.1 hb4)
                have q1 := Dr.cell0 (cell_ext HX.out.2.1 hb4)
                have q2 := Dr.cell0 (cell_ext HX.out.2.2.1 hb4)
                have q5 := Dr.cell0 ((hF0.ext hb4).cell (tab_get r.frm (show t < n + 1 by omega)))
                refine Dr.plan_q (l := [_, _, _, _, _, _, _, _, _, _]) rfl (fun K hK => ?_)
                iterate 10 (go_big_quiet_step (fail))
                refine wpQuiet_nil (hK _ ?_); clear hK K
                refine Dr.plan_e rfl (by rfl) (fun K hK => ?_)
                go_wp2_with fail
                refine (price_any r A n cap t n _ hok hn hcap (by omega) (by omega) (hd0.ext hb4)).mono ?_; rintro e w2 ⟨rfl, hb5⟩
                refine hK _ _ (.of hb5) ?_; clear hK K
                refine Dr.plan_q (l := [_, _]) rfl (fun K hK => ?_)
                iterate 2 (go_big_quiet_step (fail))
                refine wpQuiet_nil (hK _ ?_); clear hK K
                refine Dr.plan_end rfl ?_
                go_wp2
                go_meet
                case rel => exact ⟨bool_congr (by rw [Hq.out]; rfl), ext_trans hbw4 hb5⟩
            case rest =>
              obtain ⟨rfl, hb2⟩ := hcut
              have hb3 := hb1.trans (hb2.mono hb1.size)
              have hown2 := hown.ext hb2
              clear hb1 hb2 hown
              cases hq : (r.feeds t n && (r.price t n == r.frm t))
              · have Hq := Lib.hid hq
                clear hq
                have hnx := r.next_spec hok (t := t) (by omega) Hfrm.out
                have hn1 := hnx.1
                have hn2 : r.next t ≤ n := by have := hnx.2.1; omega
                have Hn3 := Lib.hid hnx.2.2.1
                have Hn4 := Lib.hid hnx.2.2.2
                have hfn : firstN (r.nextP t) (n - t) (t + 1) = r.next t := by unfold Rd.next; rw [hn]
                have Hfn := Lib.hid hfn
                clear hnx hfn
                go_wp2
                go_loopw [5] (fun x wr => ∃ s k, x = .int .i64 (s : Nat) ∧ Hid (firstN (r.nextP t) k s = r.next t) ∧ Hid (s + k = n + 1) ∧ t + 1 ≤ s ∧ s ≤ r.next t ∧ OwnL wr W0.heap.size 3 1 encI u2 (natsI (done ++ [t])) ∧ Below W0.heap.size W0 wr) (fun x _ => (n + 1 - intOf x).toNat)
                case atStart => exact ⟨t + 1, n - t, by go_num, Hfn, Lib.hid (by omega), by omega, hn1, hown2, hb3⟩
                case round =>
                  clear hown2 hb3 Hfn
                  obtain ⟨s, k', rfl, Hk', Hsk, hs1, hsn, hown, hb1⟩ := hrel
                  go_wp2
                  have hbw := ext_drew wr
                  refine Dr.wp_region_plan 17 [] (.q [0, 1, 2, 3, 5, 6, 7, 8, 9, 11, 12, 13, 14, 15] (.e1 4 (.q [10, 16] .done))) (by kernel_rfl) (by kernel_rfl) ?_
                  have hb2 := hb1.drew
                  have hown2 := hown.ext hbw
                  clear hown hb1 hbw
                  generalize World.drew _ = W at *
                  have hs0 : (0 : Int) ≤ s := by omega
                  have hs2 : (s : Int) < (n : Int) + 1 := by omega
                  have q0 := Dr.cell0 (cell_ext HX.out.1 hb2)
                  have q1 := Dr.cell0 (cell_ext HX.out.2.1 hb2)
                  have q2 := Dr.cell0 (cell_ext HX.out.2.2.1 hb2)
                  have q5 := Dr.cell0 ((hF0.ext hb2).cell (tab_get r.frm (show t < n + 1 by omega)))
                  have q6 := Dr.cell0 ((hF0.ext hb2).cell (tab_get r.frm (show s < n + 1 by omega)))
                  refine Dr.plan_q (l := [_, _, _, _, _, _, _, _, _, _, _, _, _, _]) rfl (fun K hK => ?_)
                  iterate 14 (go_big_quiet_step (fail))
                  refine wpQuiet_nil (hK _ ?_); clear hK K
                  refine Dr.plan_e rfl (by rfl) (fun K hK => ?_)
                  go_wp2_with fail
                  refine (price_any r A n cap t s _ hok hn hcap (by omega) (by omega) (hd0.ext hb2)).mono ?_; rintro e w1 ⟨rfl, hb3⟩
                  refine hK _ _ (.of hb3) ?_; clear hK K
                  have hp := r.price_nonneg hok (i := t) (by omega) s
                  have hfb := Rd.frm_bd hok s
                  refine Dr.plan_q (l := [_, _]) rfl (fun K hK => ?_)
                  iterate 2 (go_big_quiet_step (fail))
                  refine wpQuiet_nil (hK _ ?_); clear hK K
                  refine Dr.plan_end rfl ?_
                  clear q0 q1 q2 q5 q6
                  have hb4 := hb2.trans (hb3.mono hb2.size)
                  have hown4 := hown2.ext hb3
                  clear hb2 hb3 hown2
                  cases hq : (r.price t s + r.frm s != r.frm t)
                  · have hsx : s = r.next t := by
                      rw [← Hk'.out]
                      cases k' with
                      | zero => rfl
                      | succ k' =>
                        unfold firstN
                        rw [if_pos (by unfold Rd.nextP; simpa using hq)]
                    clear hq Hk' Hsk hp hfb
                    have Hsx := Lib.hid hsx
                    have hch : r.chain k t = if s = n then [t] else t :: r.chain (k - 1) s := by
                      cases k with
                      | zero => exfalso; have := Hk.out; omega
                      | succ k =>
                        conv => lhs; unfold Rd.chain
                        rw [hn, Hq.out, if_neg (by simp), ← hsx]
                        rfl
                    clear hsx
                    by_cases hse : s = n
                    · have hpl2 : r.planN = done ++ [t] := by rw [← Hp.out, hch, if_pos hse]
                      have Hpl2 := Lib.hid hpl2
                      clear hch hpl2
                      go_wp2
                      go_ret
                      exact ⟨_, rfl, by rw [Hpl2.out]; exact FreshL.of_own hown4 encI_len hb0.size, hb0.trans (hb4.mono hb0.size)⟩
                    · have hpl2 : (done ++ [t]) ++ r.chain (k - 1) s = r.planN := by rw [← Hp.out, hch, if_neg hse]; simp
                      have Hpl2 := Lib.hid hpl2
                      have hsn2 : s < n := by omega
                      have hll : (natsI (done ++ [t])).length ≤ 1000000 := by have := Hlen.out; simp [natsI]; omega
                      have hen : (natsI (done ++ [t])) ++ [(s : Int)] = natsI ((done ++ [t]) ++ [s]) := by simp [natsI]
                      have Hen := Lib.hid hen
                      have hse' : ((s : Int) == n) = false := by simp; omega
                      clear hch hpl2 hen
                      go_wp2_with (at_builtin; refine app1 encI 59 3 1 8 et24 (by decide) (by decide) encI_len encI_one rfl _ _ rfl W0.heap.size _ _ rfl (hown4.alloc _) w1.heap.size rfl (s : Int) (encI_cell (by simp)) hll (by simp; have := hb4.size; omega) ?_; intro g2 cap2 w2 hown5 hb5 _ _)
                      rw [Hen.out] at hown5
                      have hb6 := (hb4.alloc (o := .cells #[.int .i64 (s : Int)] 3) (by have := hb4.size; omega)).trans hb5
                      refine ⟨⟨s, done ++ [t], k - 1, rfl, hsn2, Lib.hid (by have := Hk.out; omega), Lib.hid (by rw [Hsx.out]; exact Hn4.out), hown5, Hpl2, Lib.hid (by have := Hlen.out; simp; omega), hb6⟩, ?_⟩
                      simp [intOf]; omega
                  · have hk1 : Hid (firstN (r.nextP t) (k' - 1) (s + 1) = r.next t) := Lib.hid (by
                      rw [← Hk'.out]
                      cases k' with
                      | zero => exfalso; have := Hsk.out; omega
                      | succ k' =>
                        refine (firstN_step ?_).symm
                        unfold Rd.nextP
                        simpa using hq)
                    have hlt : s + 1 ≤ r.next t := by
                      rcases Nat.lt_or_ge s (r.next t) with h | h
                      · exact h
                      · exfalso
                        have e : s = r.next t := by omega
                        have h3 := Hn3.out
                        rw [← e] at h3
                        unfold Rd.nextP at h3
                        simp at h3
                        simp [h3] at hq
                    clear hq Hk' hp hfb
                    go_wp2
                    go_roundw
                    case rel => exact ⟨s + 1, k' - 1, by go_num, hk1, Lib.hid (by have := Hsk.out; omega), by omega, hlt, hown4, hb4⟩
                    case measure => simp [intOf]; omega
              · have hpl : r.chain k t = [t] := by
                  cases k with
                  | zero => rfl
                  | succ k => unfold Rd.chain; rw [hn, if_pos hq]
                have hpl2 : r.planN = done ++ [t] := by rw [← Hp.out, hpl]
                have Hpl2 := Lib.hid hpl2
                clear hq hpl hpl2
                go_wp2
                go_ret
                exact ⟨_, rfl, by rw [Hpl2.out]; exact FreshL.of_own hown2 encI_len hb0.size, hb0.trans (hb3.mono hb0.size)⟩
        · have hk1 : Hid (firstN (fun t => r.frm t == r.tbl 0) (k - 1) (s + 1) = r.first) := Lib.hid (by
            rw [← Hk.out]
            cases k with
            | zero => exfalso; have := Hsk.out; omega
            | succ k =>
              refine (firstN_step ?_).symm
              simpa using hq)
          have hlt : s + 1 ≤ r.first := by
            rcases Nat.lt_or_ge s r.first with h | h
            · exact h
            · exfalso
              have e : s = r.first := by omega
              rw [e, Hfst.out] at hq
              simp at hq
          clear hq Hk
          go_wp2
          go_roundw
          case rel => exact ⟨s + 1, k - 1, by go_num, hk1, Lib.hid (by have := Hsk.out; omega), hlt, hb2⟩
          case measure => simp [intOf]; omega
end Go.Proofs.Ytilkoooahoecfaa.Yd

/- Walk: Buy, CheckRoad. -/
namespace Go.Proofs.Ytilkoooahoecfaa.Yd
open Go.RowKit Go.Bs Go.Yd Go.Pl Go.Sort

/-- What Buy hands back: the days, the cost, the table, the error. -/
def buyR (r : Rd) : List Int × Int × List Int × Int :=
  if r.okB then (if r.tbl 0 < 1000000000 then (natsI r.planN, r.tbl 0, tab (r.days.length + 1) r.tbl, 0) else ([], 0, [], 7)) else ([], 0, [], 1)
def BuyOut (R : List Int × Int × List Int × Int) (w : World) (e : Ending) (w' : World) : Prop :=
  ∃ v x, e = .returned (.tuple #[v, .int .i64 R.2.1, x, .int .i64 R.2.2.2]) ∧ FreshL w w' 1 encI v R.1 ∧ FreshL w w' 1 encI x R.2.2.1 ∧ Below w.heap.size w w'

set_option maxRecDepth 100000 in
set_option maxHeartbeats 1000000 in
theorem Buy_any (r : Rd) (A : Option Addr) (n cap : Nat) (w : World) (hn : r.days.length = n) (hm : n ≤ 9223372036854775807) (hcap : n ≤ cap) (hd : RdAt w A r) :
    Calls Try.prog 40 #[.agg #[.slice A n cap, .int .i64 r.keep]] w (BuyOut (buyR r) w) := by
  have hb0 := ext_alloc w (.cells #[.slice A n cap, .int .i64 r.keep] 121)
  have HV := Lib.hid (rvalid_any r A n cap _ hn hm (hd.ext hb0))
  cases hv : r.okB
  · have hR : buyR r = ([], 0, [], 1) := by unfold buyR; rw [hv]; rfl
    have HR := Lib.hid hR
    rw [hv] at HV
    clear hv hR hn hm hcap hd
    go_enter Try.func40, Try.ntmps40
    go_wp2_with fail
    refine HV.out.mono ?_; rintro e w1 ⟨rfl, hb1⟩
    go_wp2
    rw [HR.out]
    refine bodyPost_ret (res4 rfl _ _ _) rfl ?_
    exact ⟨_, _, rfl, FreshL.nil _ _ _ _, FreshL.nil _ _ _ _, ext_trans hb0 hb1⟩
  · have hok := (Rd.okB_iff r).1 hv
    have Hv := Lib.hid hv
    rw [hv] at HV
    clear hv
    go_enter Try.func40, Try.ntmps40
    go_wp2_with fail
    refine HV.out.mono ?_; rintro e w1 ⟨rfl, hb1⟩
    have hb2 := ext_trans hb0 hb1
    have hx0 : w1.cell? ⟨w.heap.size, 0, none⟩ = some (.slice A n cap) := cell_ext (by simp) hb1
    have hx1 : w1.cell? ⟨w.heap.size, 1, none⟩ = some (.int .i64 r.keep) := cell_ext (by simp) hb1
    clear hb0 hb1
    go_wp2_with fail
    refine (buy_any r A n cap _ hok hn hcap (hd.ext hb2)).mono ?_
    rintro e w2 ⟨Bf, Bt, rfl, hb3, hF, hG, hf, hg, hfg⟩
    have hb4 := ext_trans hb2 hb3
    have hb2' := hb2
    clear hb2 hb3 hx0 hx1
    go_upto_region 4 with fail
    have hF3 := hF.ext (ext_alloc w2 (.cells #[.slice A n cap, .int .i64 r.keep, .slice (some ⟨Bf, 0, none⟩) (n + 1) (n + 1), .slice (some ⟨Bt, 0, none⟩) (n + 1) (n + 1)] 150))
    have hG3 := hG.ext (ext_alloc w2 (.cells #[.slice A n cap, .int .i64 r.keep, .slice (some ⟨Bf, 0, none⟩) (n + 1) (n + 1), .slice (some ⟨Bt, 0, none⟩) (n + 1) (n + 1)] 150))
    have hb5 := ext_trans hb4 (ext_alloc w2 (.cells #[.slice A n cap, .int .i64 r.keep, .slice (some ⟨Bf, 0, none⟩) (n + 1) (n + 1), .slice (some ⟨Bt, 0, none⟩) (n + 1) (n + 1)] 150))
    generalize hW : w2.alloc (.cells #[.slice A n cap, .int .i64 r.keep, .slice (some ⟨Bf, 0, none⟩) (n + 1) (n + 1), .slice (some ⟨Bt, 0, none⟩) (n + 1) (n + 1)] 150) = W at *
    have x0 : W.cell? ⟨w2.heap.size, 0, none⟩ = some (.slice A n cap) := by rw [← hW]; simp
    have x1 : W.cell? ⟨w2.heap.size, 1, none⟩ = some (.int .i64 r.keep) := by rw [← hW]; simp
    have x2 : W.cell? ⟨w2.heap.size, 2, none⟩ = some (.slice (some ⟨Bf, 0, none⟩) (n + 1) (n + 1)) := by rw [← hW]; simp
    have x3 : W.cell? ⟨w2.heap.size, 3, none⟩ = some (.slice (some ⟨Bt, 0, none⟩) (n + 1) (n + 1)) := by rw [← hW]; simp
    have t0 : W.cell? ⟨Bt, 0, none⟩ = some (.int .i64 (r.tbl 0)) := hG3.cell (tab_get _ (by omega))
    have hgw : w.heap.size ≤ Bt := Nat.le_trans hb2'.size hg
    clear hW hF hG hb4 hf hg hfg
    have hp0 : (0 : Int) < (n : Int) + 1 := by omega
    by_cases hM : r.tbl 0 < 1000000000
    · have hR : buyR r = (natsI r.planN, r.tbl 0, tab (n + 1) r.tbl, 0) := by unfold buyR; rw [Hv.out, if_pos rfl, if_pos hM, hn]
      have HR := Lib.hid hR
      clear hR
      go_wp2
      refine Dr.wp_region_plan 12 [] (.q [0, 2, 3, 4, 5, 6, 7] (.e1 1 (.q [8, 9, 10, 11] .done))) (by kernel_rfl) (by kernel_rfl) ?_
      have hb6 := hb5.drew
      have hF4 := hF3.ext (ext_drew W)
      have hG4 := hG3.ext (ext_drew W)
      have q0 := Dr.cell0 (cell_ext x0 (ext_drew W))
      have q1 := Dr.cell0 (cell_ext x1 (ext_drew W))
      have q2 := Dr.cell0 (cell_ext x2 (ext_drew W))
      have q3 := Dr.cell0 (cell_ext x3 (ext_drew W))
      have q4 := Dr.cell0 (cell_ext t0 (ext_drew W))
      clear x0 x1 x2 x3 t0 hb5 hF3 hG3
      generalize World.drew _ = W1 at *
      refine Dr.plan_q (l := [_, _, _, _, _, _, _]) rfl (fun K hK => ?_)
      iterate 7 (go_big_quiet_step (fail))
      refine wpQuiet_nil (hK _ ?_); clear hK K
      refine Dr.plan_e rfl (by rfl) (fun K hK => ?_)
      go_wp2_with fail
      refine (plan_any r A n cap Bf Bt W1 hok hn hcap (hd.ext hb6) hF4 hG4 hM).mono ?_; rintro e w3 ⟨v, rfl, hfr, hb7⟩
      refine hK _ _ (.of hb7) ?_; clear hK K
      refine Dr.plan_q (l := [_, _, _, _]) rfl (fun K hK => ?_)
      iterate 4 (go_big_quiet_step (fail))
      refine wpQuiet_nil (hK _ ?_); clear hK K
      refine Dr.plan_end rfl ?_
      clear q0 q1 q2 q3 q4
      have hc := (hG4.ext hb7).cells
      have hlt : Bt < w3.heap.size := cell_lt ((hG4.ext hb7).cell (i := 0) (tab_get _ (by omega)))
      go_wp2
      rw [HR.out]
      refine bodyPost_ret (res4 rfl _ _ _) rfl ?_
      refine ⟨v, _, rfl, hfr.older hb6.size, ⟨some ⟨Bt, 0, none⟩, n + 1, by simp [tab_len], by simp [tab_len], by have h30 := hok.1; rw [hn] at h30; unfold maxLen; omega, hc, ?_⟩, ext_trans hb6 hb7⟩
      intro k hk
      simp at hk
      omega
    · have hR : buyR r = ([], 0, [], 7) := by unfold buyR; rw [Hv.out, if_pos rfl, if_neg hM]
      have HR := Lib.hid hR
      clear hR
      have hM' : (1000000000 : Int) ≤ r.tbl 0 := by omega
      go_wp2
      rw [HR.out]
      refine bodyPost_ret (res4 rfl _ _ _) rfl ?_
      exact ⟨_, _, rfl, FreshL.nil _ _ _ _, FreshL.nil _ _ _ _, hb5⟩
end Go.Proofs.Ytilkoooahoecfaa.Yd
