/- The yard's references and Stands: plain arrangements; the walks of Right, Yard, Collect, Stands. -/
import Derived.Deep.DeepCutAuto
import Derived.Maps.RangeWalk
import Derived.Test.YtopfhinnamhoiaaYardW
/- Arrangements of a yard as plain data: what stand returns is one, and there is none where it returns nothing. -/
namespace Go.Proofs.Ytopfhinnamhoiaa
open Go.RowKit Go.Yd Go.Pl Go.Sort Go.Bs

theorem mem_freeIx (f : Nat → Bool) (n : Nat) (x : Ix n) : ∀ k h, x ∈ freeIx f n k h ↔ x.1 < k ∧ f x.1 = true
  | 0, h => by simp [freeIx]
  | k + 1, h => by
    have ih := mem_freeIx f n x k (by omega)
    unfold freeIx
    by_cases hf : f k = true
    · rw [if_pos hf, List.mem_append, ih, List.mem_singleton]
      constructor
      · rintro (⟨h1, h2⟩ | rfl)
        · exact ⟨by omega, h2⟩
        · exact ⟨by simp, hf⟩
      · rintro ⟨h1, h2⟩
        by_cases e : x.1 = k
        · right; obtain ⟨v, p⟩ := x; simp only at e; subst e; rfl
        · left; exact ⟨by omega, h2⟩
    · rw [if_neg hf, ih]
      constructor
      · rintro ⟨h1, h2⟩; exact ⟨by omega, h2⟩
      · rintro ⟨h1, h2⟩
        by_cases e : x.1 = k
        · rw [e] at h2; exact absurd h2 hf
        · exact ⟨by omega, h2⟩
/-- may the next animal have box q? -/
def okPlace (y : Yrd) (ps : List (Nat × Nat)) (n1 : Nat) (at_ : List Int) (q : Int) : Bool := decide (0 ≤ q ∧ q < n1) && fits y ps at_ q.toNat
def arrP (y : Yrd) (ps : List (Nat × Nat)) (n1 : Nat) : List Int → List Int → Bool
  | _, [] => true
  | at_, q :: r => okPlace y ps n1 at_ q && arrP y ps n1 (at_ ++ [q]) r
section
variable {y : Yrd} {ps : List (Nat × Nat)} {n1 : Nat}
theorem okPlace_ix {at_ : List Int} {q : Int} : okPlace y ps n1 at_ q = true ↔ ∃ x ∈ freeIx (fits y ps at_) n1 n1 (Nat.le_refl _), (x.1 : Int) = q := by
  unfold okPlace
  rw [Bool.and_eq_true, decide_eq_true_eq]
  constructor
  · rintro ⟨h1, h2⟩
    exact ⟨⟨q.toNat, by omega⟩, (mem_freeIx _ _ _ _ _).2 ⟨by simp only; omega, h2⟩, by simp only; omega⟩
  · rintro ⟨x, hx, rfl⟩
    have h2 := ((mem_freeIx _ _ _ _ _).1 hx).2
    have := x.2
    refine ⟨by omega, ?_⟩
    rwa [Int.toNat_natCast]
theorem standR_sound : ∀ (m : Nat) (at_ l : List Int), standR y ps n1 m at_ = some l → ∃ r, l = at_ ++ r ∧ r.length = m ∧ arrP y ps n1 at_ r = true
  | 0, at_, l, h => ⟨[], by simp [standR] at h; simp [h], rfl, rfl⟩
  | m + 1, at_, l, h => by
    unfold standR at h
    obtain ⟨x, hx, hxl⟩ := List.exists_of_findSome?_eq_some h
    obtain ⟨r, h1, h2, h3⟩ := standR_sound m _ _ hxl
    refine ⟨(x.1 : Int) :: r, by rw [h1]; simp, by simp [h2], ?_⟩
    unfold arrP
    rw [h3, okPlace_ix.2 ⟨x, hx, rfl⟩]; rfl
theorem standR_complete : ∀ (m : Nat) (at_ : List Int), standR y ps n1 m at_ = none → ∀ r : List Int, r.length = m → arrP y ps n1 at_ r = false
  | 0, at_, h, r, hr => by simp [standR] at h
  | m + 1, at_, h, r, hr => by
    match r, hr with
    | q :: r, hr =>
      unfold standR at h
      have hall := List.findSome?_eq_none_iff.1 h
      unfold arrP
      cases hq : okPlace y ps n1 at_ q
      · rfl
      · obtain ⟨x, hx, rfl⟩ := okPlace_ix.1 hq
        rw [standR_complete m _ (hall x hx) r (by simpa using hr)]; rfl
theorem arrP_iff : ∀ (r at_ : List Int), arrP y ps n1 at_ r = true ↔ ∀ i (h : i < r.length), okPlace y ps n1 (at_ ++ r.take i) r[i] = true
  | [], at_ => by simp [arrP]
  | q :: r, at_ => by
    unfold arrP
    rw [Bool.and_eq_true, arrP_iff r]
    constructor
    · rintro ⟨h1, h2⟩ i hi
      match i with
      | 0 => simpa using h1
      | i + 1 =>
        have := h2 i (by simpa using hi)
        simpa using this
    · intro h
      refine ⟨by have := h 0 (by simp); simp only [List.take_zero, List.append_nil, List.getElem_cons_zero] at this; exact this, fun i hi => ?_⟩
      have := h (i + 1) (by simpa using hi)
      simpa using this
theorem clash_false {i : Nat} {p : Int} : ∀ (l : List Int) (j : Nat), clash ps i p j l = false → ∀ k (h : k < l.length), l[k] ≠ p ∧ (-1 ≤ wrap64 (l[k] - p) ∧ wrap64 (l[k] - p) ≤ 1 → (i, j + k) ∉ ps)
  | [], j, _, k, h => by simp at h
  | q :: r, j, hc, k, h => by
    unfold clash at hc
    simp only [Bool.or_eq_false_iff, Bool.and_eq_false_iff, decide_eq_false_iff_not, beq_eq_false_iff_ne] at hc
    match k with
    | 0 =>
      refine ⟨by simpa using hc.1.1, fun hw => ?_⟩
      rcases hc.1.2 with h1 | h1
      · exact absurd (by simpa using hw) h1
      · simpa using h1
    | k + 1 =>
      have := clash_false r (j + 1) hc.2 k (by simpa using h)
      rw [show j + 1 + k = j + (k + 1) by omega] at this
      simpa using this
end
theorem mem_foeL (a b : Nat) : ∀ (l : List (Int × Int)), (a, b) ∈ foeL l ↔ ∃ p ∈ l, (p.1.toNat = a ∧ p.2.toNat = b) ∨ (p.2.toNat = a ∧ p.1.toNat = b) := by
  have key : ∀ (l : List (Int × Int)) (ps : List (Nat × Nat)), (a, b) ∈ l.foldl (fun ps p => (p.2.toNat, p.1.toNat) :: (p.1.toNat, p.2.toNat) :: ps) ps ↔ (a, b) ∈ ps ∨ ∃ p ∈ l, (p.1.toNat = a ∧ p.2.toNat = b) ∨ (p.2.toNat = a ∧ p.1.toNat = b) := by
    intro l
    induction l with
    | nil => intro ps; simp
    | cons p l ih =>
      intro ps
      rw [List.foldl_cons, ih]
      simp only [List.mem_cons, Prod.mk.injEq]
      constructor
      · rintro ((⟨h1, h2⟩ | ⟨h1, h2⟩ | h) | ⟨q, hq, h⟩)
        · exact .inr ⟨p, .inl rfl, .inr ⟨h1.symm, h2.symm⟩⟩
        · exact .inr ⟨p, .inl rfl, .inl ⟨h1.symm, h2.symm⟩⟩
        · exact .inl h
        · exact .inr ⟨q, .inr hq, h⟩
      · rintro (h | ⟨q, rfl | hq, h⟩)
        · exact .inl (.inr (.inr h))
        · rcases h with h | h
          · exact .inl (.inr (.inl ⟨h.1.symm, h.2.symm⟩))
          · exact .inl (.inl ⟨h.1.symm, h.2.symm⟩)
        · exact .inr ⟨q, hq, h⟩
  intro l
  have := key l []
  simpa [foeL] using this
def StandsB (y : Yrd) (pl : List Int) : Bool := Yrd.okB y && (decide (pl.length = y.needs.length) && arrP y (foeL y.foes) y.boxes.length [] pl)
/-- an arrangement's places: room, and no foes side by side -/
structure Arr (y : Yrd) (l : List Int) : Prop where
  len : l.length = y.needs.length
  box : ∀ i (h : i < l.length), 0 ≤ l[i] ∧ l[i] < y.boxes.length
  room : ∀ i (h : i < l.length), y.needs.getD i 0 ≤ y.boxes.getD (l[i]).toNat 0
  one : ∀ i k (h : i < l.length) (hk : k < i), l[k]'(by omega) ≠ l[i]
  foe : ∀ p ∈ y.foes, ∀ (h1 : p.1.toNat < l.length) (h2 : p.2.toNat < l.length), ¬ (-1 ≤ l[p.1.toNat] - l[p.2.toNat] ∧ l[p.1.toNat] - l[p.2.toNat] ≤ 1)
theorem wrap_small {a b : Int} (ha : 0 ≤ a ∧ a < 1000) (hb : 0 ≤ b ∧ b < 1000) : wrap64 (a - b) = a - b := by
  unfold wrap64
  omega
theorem arr_of {y : Yrd} (hok : Yrd.okB y = true) {l : List Int} (h : StandsB y l = true) : Arr y l := by
  unfold StandsB at h
  simp only [Bool.and_eq_true, decide_eq_true_eq] at h
  obtain ⟨-, hlen, harr⟩ := h
  have hp := (arrP_iff l []).1 harr
  obtain ⟨k1, -, -, -, -, k6⟩ := Yrd.okB_spec hok
  have hbox : ∀ i (h : i < l.length), 0 ≤ l[i] ∧ l[i] < y.boxes.length := fun i hi => by
    have := hp i hi
    unfold okPlace at this
    rw [Bool.and_eq_true, decide_eq_true_eq] at this
    exact this.1
  have hfit : ∀ i (h : i < l.length), fits y (foeL y.foes) (l.take i) (l[i]).toNat = true := fun i hi => by
    have := hp i hi
    unfold okPlace at this
    rw [Bool.and_eq_true] at this
    simpa using this.2
  have hti : ∀ i, i < l.length → (l.take i).length = i := fun i hi => by simp; omega
  have hroom : ∀ i (h : i < l.length), y.needs.getD i 0 ≤ y.boxes.getD (l[i]).toNat 0 := fun i hi => by
    have := hfit i hi
    unfold fits at this
    rw [Bool.and_eq_true, decide_eq_true_eq, hti i hi] at this
    exact this.1
  have hcl : ∀ i k (h : i < l.length) (hk : k < i), l[k]'(by omega) ≠ l[i] ∧ (-1 ≤ l[k]'(by omega) - l[i] ∧ l[k]'(by omega) - l[i] ≤ 1 → (i, k) ∉ foeL y.foes) := fun i k hi hk => by
    have := hfit i hi
    unfold fits at this
    rw [Bool.and_eq_true, hti i hi, Bool.not_eq_true'] at this
    have hb := hbox i hi
    have hbk := hbox k (by omega)
    have hc := clash_false (l.take i) 0 this.2 k (by rw [hti i hi]; exact hk)
    rw [List.getElem_take, Int.toNat_of_nonneg hb.1, wrap_small (by omega) (by omega), Nat.zero_add] at hc
    exact hc
  refine ⟨hlen, hbox, hroom, fun i k hi hk => (hcl i k hi hk).1, fun p hp h1 h2 hw => ?_⟩
  have hpr := k6 p hp
  have hne : p.1.toNat ≠ p.2.toNat := by omega
  rcases Nat.lt_or_gt_of_ne hne with hlt | hlt
  · exact (hcl _ _ h2 hlt).2 (by omega) ((mem_foeL _ _ _).2 ⟨p, hp, .inr ⟨rfl, rfl⟩⟩)
  · exact (hcl _ _ h1 hlt).2 (by omega) ((mem_foeL _ _ _).2 ⟨p, hp, .inl ⟨rfl, rfl⟩⟩)
theorem stand_stands {y : Yrd} (hok : Yrd.okB y = true) {l : List Int} (h : Yrd.stand y = some l) : StandsB y l = true := by
  obtain ⟨r, h1, h2, h3⟩ := standR_sound _ _ _ h
  rw [List.nil_append] at h1
  subst h1
  unfold StandsB
  rw [hok, h3, decide_eq_true h2]; rfl
theorem stand_none {y : Yrd} (h : Yrd.stand y = none) (pl : List Int) : StandsB y pl = false := by
  unfold StandsB
  by_cases hl : pl.length = y.needs.length
  · rw [standR_complete _ _ h pl hl]; simp
  · rw [decide_eq_false hl]; simp
end Go.Proofs.Ytopfhinnamhoiaa

/- Walk: Right (the yard's), Yard (the yard for the program), Collect, Stands. -/
namespace Go.Proofs.Ytopfhinnamhoiaa
open Go.RowKit Go.Bs Go.Yd Go.Pl Go.Sort

theorem Yrd.okB_iff {y : Yrd} : Yrd.okB y = true ↔ ((1 : Int) ≤ y.boxes.length ∧ (y.boxes.length : Int) ≤ 8) ∧ y.boxes.all boxB = true ∧ (y.needs.length : Int) ≤ 8 ∧ y.needs.all boxB = true ∧ (y.foes.length : Int) ≤ 20 ∧ ∀ p ∈ y.foes, foeB y.needs.length p = true := by
  simp only [Yrd.okB, Bool.and_eq_true, decide_eq_true_eq, List.all_eq_true]
theorem encP_one (x : Int × Int) : ∀ u ∈ encP x, u.oneCell' = true := by
  intro u hu
  simp only [encP, List.mem_cons, List.not_mem_nil, or_false] at hu
  rcases hu with rfl | rfl <;> rfl
theorem et55 : ElemT Try.prog 55 64 2 16 := ElemT.mk (z := .agg #[.int .i64 0, .int .i64 0]) Try.underlying55 (by kernel_rfl) rfl
theorem Cells.far {α : Type} {w w' : World} {A : Option Addr} {sz : Nat} {enc : α → List Value} {l : List α} {row : Option Nat} (h : Cells w A sz enc l) (hg : w.grownBy w' row) (hne : ∀ b, A.map (·.block) = some b → some b ≠ row) : Cells w' A sz enc l :=
  h.keep fun p hp hA => hg.cell_far p hp (hne _ hA)

set_option maxRecDepth 100000 in
set_option maxHeartbeats 4000000 in
theorem RightY_any (y : Yrd) (A1 A2 A3 : Option Addr) (n1 n2 n3 c1 c2 c3 : Nat) (w : World) (h1 : y.boxes.length = n1) (h2 : y.needs.length = n2) (h3 : y.foes.length = n3) (m1 : n1 ≤ 9223372036854775807) (m2 : n2 ≤ 9223372036854775807) (m3 : n3 ≤ 9223372036854775807) (hd : YdAt w y A1 A2 A3) :
    Calls Try.prog 32 #[.agg #[.slice A1 n1 c1, .slice A2 n2 c2, .slice A3 n3 c3]] w fun e w' => e = .returned (.bool (Yrd.okB y)) ∧ Below w.heap.size w w' := by
  have hb0 := ext_alloc w (.cells #[.slice A1 n1 c1, .slice A2 n2 c2, .slice A3 n3 c3] 57)
  have hB := Blk.new w 57 [.slice A1 n1 c1, .slice A2 n2 c2, .slice A3 n3 c3]
  generalize hres : Yrd.okB y = res
  have hbad : Yrd.okB y = false → res = false := fun h => by rw [← hres, h]
  have Hbad := Lib.hid hbad
  have Hres := Lib.hid hres
  have Hi := Lib.hid (Yrd.okB_iff (y := y))
  have H2 := Lib.hid h2
  have H3 := Lib.hid h3
  have H1 := Lib.hid h1
  clear hres hbad
  go_enter Try.func32, Try.ntmps32
  go_upto_region 1 with fail
  change Blk (w.alloc (.cells #[.slice A1 n1 c1, .slice A2 n2 c2, .slice A3 n3 c3] 57)) w.heap.size 57 [.slice A1 n1 c1, .slice A2 n2 c2, .slice A3 n3 c3] at hB
  generalize w.alloc (.cells #[.slice A1 n1 c1, .slice A2 n2 c2, .slice A3 n3 c3] 57) = W0 at *
  go_wp2
  go_loopw [3] (fun x wr => ∃ k : Nat, x = .int .i64 k ∧ k ≤ n3 ∧ Hid (∀ p ∈ y.foes.take k, foeB n2 p = true) ∧ Below w.heap.size w wr ∧ Blk wr w.heap.size 57 [.slice A1 n1 c1, .slice A2 n2 c2, .slice A3 n3 c3]) (fun x _ => n3 - (intOf x).toNat)
  case atStart => exact ⟨0, rfl, by omega, Lib.hid (by simp), hb0, hB⟩
  case round =>
    clear hb0 hB
    obtain ⟨k, rfl, hk, Hk, hb, hB⟩ := hrel
    have x0 : wr.cell? ⟨w.heap.size, 0, none⟩ = _ := hB.cell rfl
    have x1 : wr.cell? ⟨w.heap.size, 1, none⟩ = _ := hB.cell rfl
    have x2 : wr.cell? ⟨w.heap.size, 2, none⟩ = _ := hB.cell rfl
    by_cases hlt : k < n3
    · have hlt' : (k : Int) < (n3 : Int) := by omega
      have hk0 : (0 : Int) ≤ (k : Int) := by omega
      have hkl : k < y.foes.length := by omega
      obtain ⟨b, off, rfl, -, d0, d1⟩ := (hd.f.ext hb).at2 (k := k) hkl rfl
      have hst : ∀ p ∈ y.foes.take (k + 1), p ∈ y.foes.take k ∨ p = y.foes[k] := fun p hp => by
        rw [List.take_succ_eq_append_getElem hkl, List.mem_append, List.mem_singleton] at hp
        exact hp
      have hmem : y.foes[k] ∈ y.foes := List.getElem_mem hkl
      generalize hpq : y.foes[k] = pq at *
      clear hpq
      obtain ⟨p, q⟩ := pq
      simp only at d0 d1
      have bad : foeB n2 (p, q) = false → res = false := fun h => Hbad.out (by
        cases hr : Yrd.okB y
        · rfl
        · have := (Hi.out.1 hr).2.2.2.2.2 _ hmem
          rw [H2.out, h] at this; cases this)
      have good : foeB n2 (p, q) = true → ∀ p ∈ y.foes.take (k + 1), foeB n2 p = true := fun h r hr => by
        rcases hst r hr with h' | rfl
        · exact Hk.out r h'
        · exact h
      have Bad := Lib.hid bad
      have Good := Lib.hid good
      clear bad good hst hmem
      have hbx := Blk.new wr 64 [.int .i64 p, .int .i64 q]
      have hb2 := ext_trans hb (ext_alloc wr (.cells #[.int .i64 p, .int .i64 q] 64))
      have hB2 := hB.ext (ext_alloc wr (.cells #[.int .i64 p, .int .i64 q] 64))
      clear hb hB
      go_upto_region 5 with fail
      change Blk (wr.alloc (.cells #[.int .i64 p, .int .i64 q] 64)) wr.heap.size 64 [.int .i64 p, .int .i64 q] at hbx
      clear x0 x1 x2 d0 d1
      generalize wr.alloc (.cells #[.int .i64 p, .int .i64 q] 64) = W1 at *
      have d0 : W1.cell? ⟨wr.heap.size, 0, none⟩ = _ := hbx.cell rfl
      have d1 : W1.cell? ⟨wr.heap.size, 1, none⟩ = _ := hbx.cell rfl
      have x1 : W1.cell? ⟨w.heap.size, 1, none⟩ = _ := hB2.cell rfl
      by_cases e1 : 0 ≤ p ∧ p ≤ (n2 : Int) - 1
      · have C1 := Lib.hid (In_t e1)
        by_cases e2 : 0 ≤ q ∧ q ≤ (n2 : Int) - 1
        · have C2 := Lib.hid (In_t e2)
          cases e3 : (p == q)
          · have hne : p ≠ q := by simpa using e3
            have Hr := Lib.hid (Good.out (by unfold foeB; rw [decide_eq_true e1, decide_eq_true e2, decide_eq_true hne]; rfl))
            clear e1 e2 hne
            go_wp2_with fail
            refine (C1.out _).mono ?_; rintro e w1 ⟨rfl, rfl⟩
            go_wp2_with fail
            refine (C2.out _).mono ?_; rintro e w1 ⟨rfl, rfl⟩
            go_wp2
            go_roundw
            case rel => exact ⟨k + 1, by go_num, by omega, Hr, hb2, hB2⟩
            case measure => simp [intOf]; omega
          · have hne : ¬ p ≠ q := by simpa using e3
            have Hr := Lib.hid (Bad.out (by unfold foeB; rw [decide_eq_false hne]; simp))
            clear e1 e2 hne
            go_wp2_with fail
            refine (C1.out _).mono ?_; rintro e w1 ⟨rfl, rfl⟩
            go_wp2_with fail
            refine (C2.out _).mono ?_; rintro e w1 ⟨rfl, rfl⟩
            go_wp2
            go_ret
            exact ⟨ret_congr (bool_congr Hr.out.symm), hb2⟩
        · have C2 := Lib.hid (In_f e2)
          have Hr := Lib.hid (Bad.out (by unfold foeB; rw [decide_eq_false e2]; simp))
          clear e1 e2
          go_wp2_with fail
          refine (C1.out _).mono ?_; rintro e w1 ⟨rfl, rfl⟩
          go_wp2_with fail
          refine (C2.out _).mono ?_; rintro e w1 ⟨rfl, rfl⟩
          go_wp2
          go_ret
          exact ⟨ret_congr (bool_congr Hr.out.symm), hb2⟩
      · have C1 := Lib.hid (In_f e1)
        have Hr := Lib.hid (Bad.out (by unfold foeB; rw [decide_eq_false e1]; rfl))
        clear e1
        go_wp2_with fail
        refine (C1.out _).mono ?_; rintro e w1 ⟨rfl, rfl⟩
        go_wp2
        go_ret
        exact ⟨ret_congr (bool_congr Hr.out.symm), hb2⟩
    · obtain rfl : k = n3 := by omega
      have hk := Hk.out
      rw [List.take_of_length_le (by omega)] at hk
      have bad : ¬ (((1 : Int) ≤ n1 ∧ (n1 : Int) ≤ 8) ∧ y.boxes.all boxB = true ∧ (n2 : Int) ≤ 8 ∧ y.needs.all boxB = true ∧ (k : Int) ≤ 20) → res = false := fun h => Hbad.out (by
        cases hr : Yrd.okB y
        · rfl
        · have := Hi.out.1 hr
          rw [H1.out, H2.out, H3.out] at this
          exact absurd ⟨this.1, this.2.1, this.2.2.1, this.2.2.2.1, this.2.2.2.2.1⟩ h)
      have good : (((1 : Int) ≤ n1 ∧ (n1 : Int) ≤ 8) ∧ y.boxes.all boxB = true ∧ (n2 : Int) ≤ 8 ∧ y.needs.all boxB = true ∧ (k : Int) ≤ 20) → res = true := fun h => by
        rw [← Hres.out]
        exact Hi.out.2 (by rw [H1.out, H2.out, H3.out]; exact ⟨h.1, h.2.1, h.2.2.1, h.2.2.2.1, h.2.2.2.2, hk⟩)
      have Bad := Lib.hid bad
      have Good := Lib.hid good
      clear bad good hk
      by_cases e1 : (1 : Int) ≤ n1
      · by_cases e2 : (n1 : Int) ≤ 8
        · cases e3 : y.boxes.all boxB
          · have E3 := Lib.hid (show btwB 100000 y.boxes = false from e3)
            have Hr := Lib.hid (Bad.out (by rw [e3]; simp))
            clear e3
            go_wp2_with fail
            refine (Between_any A1 n1 c1 100000 y.boxes wr h1 (by omega) (hd.b.ext hb)).mono ?_; rintro e w1 ⟨rfl, hb1⟩
            rw [E3.out]
            go_wp2
            go_ret
            exact ⟨ret_congr (bool_congr Hr.out.symm), ext_trans hb hb1⟩
          · have E3 := Lib.hid (show btwB 100000 y.boxes = true from e3)
            by_cases e4 : (n2 : Int) ≤ 8
            · cases e5 : y.needs.all boxB
              · have E5 := Lib.hid (show btwB 100000 y.needs = false from e5)
                have Hr := Lib.hid (Bad.out (by rw [e5]; simp))
                clear e3 e5
                go_wp2_with fail
                refine (Between_any A1 n1 c1 100000 y.boxes wr h1 (by omega) (hd.b.ext hb)).mono ?_; rintro e w1 ⟨rfl, hb1⟩
                rw [E3.out]
                have y1 := cell_ext x1 hb1
                go_wp2_with fail
                refine (Between_any A2 n2 c2 100000 y.needs w1 h2 (by omega) (hd.n.ext (ext_trans hb hb1))).mono ?_; rintro e w2 ⟨rfl, hb3⟩
                rw [E5.out]
                go_wp2
                go_ret
                exact ⟨ret_congr (bool_congr Hr.out.symm), ext_trans (ext_trans hb hb1) hb3⟩
              · have E5 := Lib.hid (show btwB 100000 y.needs = true from e5)
                by_cases e6 : (k : Int) ≤ 20
                · have Hr := Lib.hid (Good.out ⟨⟨e1, e2⟩, e3, e4, e5, e6⟩)
                  clear e3 e5
                  go_wp2_with fail
                  refine (Between_any A1 n1 c1 100000 y.boxes wr h1 (by omega) (hd.b.ext hb)).mono ?_; rintro e w1 ⟨rfl, hb1⟩
                  rw [E3.out]
                  have y1 := cell_ext x1 hb1
                  go_wp2_with fail
                  refine (Between_any A2 n2 c2 100000 y.needs w1 h2 (by omega) (hd.n.ext (ext_trans hb hb1))).mono ?_; rintro e w2 ⟨rfl, hb3⟩
                  rw [E5.out]
                  have y2 := cell_ext (cell_ext x2 hb1) hb3
                  go_wp2
                  go_ret
                  exact ⟨ret_congr (bool_congr Hr.out.symm), ext_trans (ext_trans hb hb1) hb3⟩
                · have Hr := Lib.hid (Bad.out (fun h => e6 h.2.2.2.2))
                  clear e3 e5
                  go_wp2_with fail
                  refine (Between_any A1 n1 c1 100000 y.boxes wr h1 (by omega) (hd.b.ext hb)).mono ?_; rintro e w1 ⟨rfl, hb1⟩
                  rw [E3.out]
                  have y1 := cell_ext x1 hb1
                  go_wp2_with fail
                  refine (Between_any A2 n2 c2 100000 y.needs w1 h2 (by omega) (hd.n.ext (ext_trans hb hb1))).mono ?_; rintro e w2 ⟨rfl, hb3⟩
                  rw [E5.out]
                  have y2 := cell_ext (cell_ext x2 hb1) hb3
                  go_wp2
                  go_ret
                  exact ⟨ret_congr (bool_congr (by rw [Hr.out]; simp; omega)), ext_trans (ext_trans hb hb1) hb3⟩
            · have e4' : (8 : Int) < (n2 : Int) := by omega
              have Hr := Lib.hid (Bad.out (fun h => e4 h.2.2.1))
              clear e3 e4
              go_wp2_with fail
              refine (Between_any A1 n1 c1 100000 y.boxes wr h1 (by omega) (hd.b.ext hb)).mono ?_; rintro e w1 ⟨rfl, hb1⟩
              rw [E3.out]
              have y1 := cell_ext x1 hb1
              go_wp2
              go_ret
              exact ⟨ret_congr (bool_congr Hr.out.symm), ext_trans hb hb1⟩
        · have e2' : (8 : Int) < (n1 : Int) := by omega
          have Hr := Lib.hid (Bad.out (fun h => e2 h.1.2))
          clear e2
          go_wp2
          go_ret
          exact ⟨ret_congr (bool_congr Hr.out.symm), hb⟩
      · have e1' : (n1 : Int) < 1 := by omega
        have Hr := Lib.hid (Bad.out (fun h => e1 h.1.1))
        clear e1
        go_wp2
        go_ret
        exact ⟨ret_congr (bool_congr Hr.out.symm), hb⟩
end Go.Proofs.Ytopfhinnamhoiaa

/- Walk: Yard (the yard for the program). -/
namespace Go.Proofs.Ytopfhinnamhoiaa
open Go.RowKit Go.Bs Go.Yd Go.Pl Go.Sort

/-- the yard that Yard hands back, in its box -/
def YrdIn (w W : World) (y : Yrd) (n1 n2 n3 : Nat) (z : Value) : Prop :=
  ∃ A1 A2 A3 c1 c2 c3, z = .pointer (some ⟨w.heap.size + 1, 0, none⟩) ∧ Below w.heap.size w W ∧ Blk W (w.heap.size + 1) 61 [.slice A1 n1 c1, .slice A2 n2 c2, .slice A3 n3 c3] ∧ YdAt W y A1 A2 A3 ∧ (n1 ≤ c1 ∧ n2 ≤ c2 ∧ n3 ≤ c3)
theorem cells_off {α : Type} {w : World} {A : Option Addr} {sz : Nat} {enc : α → List Value} {l : List α} (h : Cells w A sz enc l) {b : Nat} (hb : ∀ k, A.map (·.block) = some k → k ≠ b) (i : Nat) (u : Value) : Cells (w.setCell ⟨b, i, none⟩ u) A sz enc l :=
  h.setCell (fun e => hb _ e rfl) u
theorem yard_fin {w w' : World} {y : Yrd} {B1 B2 B3 : Option Addr} {n1 n2 n3 d1 d2 d3 : Nat} (hb : Below w.heap.size w w') (hR : Blk w' (w.heap.size + 1) 61 [.slice none 0 0, .slice none 0 0, .slice none 0 0])
    (h1 : Cells w' B1 1 encI y.boxes) (h2 : Cells w' B2 1 encI y.needs) (h3 : Cells w' B3 2 encP y.foes) (k1 : ∀ b, B1.map (·.block) = some b → b ≠ w.heap.size + 1) (k2 : ∀ b, B2.map (·.block) = some b → b ≠ w.heap.size + 1) (k3 : ∀ b, B3.map (·.block) = some b → b ≠ w.heap.size + 1)
    (c1 : n1 ≤ d1) (c2 : n2 ≤ d2) (c3 : n3 ≤ d3) :
    YrdIn w (((w'.setCell ⟨w.heap.size + 1, 0, none⟩ (.slice B1 n1 d1)).setCell ⟨w.heap.size + 1, 1, none⟩ (.slice B2 n2 d2)).setCell ⟨w.heap.size + 1, 2, none⟩ (.slice B3 n3 d3)) y n1 n2 n3 (.pointer (some ⟨w.heap.size + 1, 0, none⟩)) :=
  ⟨B1, B2, B3, d1, d2, d3, rfl, ((hb.setCell (by simp) _).setCell (by simp) _).setCell (by simp) _, ((hR.set 0 _).set 1 _).set 2 _,
    ⟨cells_off (cells_off (cells_off h1 k1 _ _) k1 _ _) k1 _ _, cells_off (cells_off (cells_off h2 k2 _ _) k2 _ _) k2 _ _, cells_off (cells_off (cells_off h3 k3 _ _) k3 _ _) k3 _ _⟩, c1, c2, c3⟩

set_option maxRecDepth 100000 in
set_option maxHeartbeats 4000000 in
theorem Yard_any (y : Yrd) (A1 A2 A3 : Option Addr) (n1 n2 n3 c1 c2 c3 : Nat) (w : World) (h1 : y.boxes.length = n1) (h2 : y.needs.length = n2) (h3 : y.foes.length = n3) (m1 : n1 ≤ 1000) (m2 : n2 ≤ 1000) (m3 : n3 ≤ 1000) (hd : YdAt w y A1 A2 A3) :
    Calls Try.prog 34 #[.agg #[.slice A1 n1 c1, .slice A2 n2 c2, .slice A3 n3 c3]] w fun e w' => ∃ B1 B2 B3 d1 d2 d3, e = .returned (.agg #[.slice B1 n1 d1, .slice B2 n2 d2, .slice B3 n3 d3]) ∧ YdAt w' y B1 B2 B3 ∧ (n1 ≤ d1 ∧ n2 ≤ d2 ∧ n3 ≤ d3) ∧ Below w.heap.size w w' := by
  have hb0 : Below w.heap.size w ((w.alloc (.cells #[.slice A1 n1 c1, .slice A2 n2 c2, .slice A3 n3 c3] 57)).alloc (.cells #[.slice none 0 0, .slice none 0 0, .slice none 0 0] 61)) := (ext_alloc w _).alloc (by simp) _
  have hB0 : Blk ((w.alloc (.cells #[.slice A1 n1 c1, .slice A2 n2 c2, .slice A3 n3 c3] 57)).alloc (.cells #[.slice none 0 0, .slice none 0 0, .slice none 0 0] 61)) w.heap.size 57 [.slice A1 n1 c1, .slice A2 n2 c2, .slice A3 n3 c3] := (Blk.new w 57 [.slice A1 n1 c1, .slice A2 n2 c2, .slice A3 n3 c3]).alloc _
  have hR0 : Blk ((w.alloc (.cells #[.slice A1 n1 c1, .slice A2 n2 c2, .slice A3 n3 c3] 57)).alloc (.cells #[.slice none 0 0, .slice none 0 0, .slice none 0 0] 61)) (w.heap.size + 1) 61 [.slice none 0 0, .slice none 0 0, .slice none 0 0] := by
    have := Blk.new (w.alloc (.cells #[.slice A1 n1 c1, .slice A2 n2 c2, .slice A3 n3 c3] 57)) 61 [.slice none 0 0, .slice none 0 0, .slice none 0 0]
    simpa using this
  have hs0 : ((w.alloc (.cells #[.slice A1 n1 c1, .slice A2 n2 c2, .slice A3 n3 c3] 57)).alloc (.cells #[.slice none 0 0, .slice none 0 0, .slice none 0 0] 61)).heap.size = w.heap.size + 2 := by simp
  go_enter Try.func34, Try.ntmps34
  go_upto_region 1 with fail
  have Hs0 := Lib.hid hs0
  clear hs0
  generalize (w.alloc (.cells #[.slice A1 n1 c1, .slice A2 n2 c2, .slice A3 n3 c3] 57)).alloc (.cells #[.slice none 0 0, .slice none 0 0, .slice none 0 0] 61) = W0 at *
  go_cut [2] (fun z W => YrdIn w W y n1 n2 n3 z)
  case first =>
    refine Dr.wp_region_plan 9 [] (.q [0, 1, 3, 4, 7, 8] (.e2 2 (.e2 5 (.e1 6 .done) 6 (.e1 5 .done)) 6 (.e1 2 (.e1 5 .done)))) (by kernel_rfl) (by kernel_rfl) ?_
    have hbW := hb0.drew
    have hBW := hB0.ext (ext_drew W0)
    have hRW := hR0.ext (ext_drew W0)
    have hs1 : W0.drew.heap.size = w.heap.size + 2 := Hs0.out
    have HsW := Lib.hid hs1
    clear hs1 hb0 hB0 hR0 Hs0
    generalize World.drew _ = W at *
    have q0 := Dr.cell0 (hBW.cell (i := 0) rfl)
    have q1 := Dr.cell0 (hBW.cell (i := 1) rfl)
    have q2 := Dr.cell0 (hBW.cell (i := 2) rfl)
    refine Dr.plan_q (l := [_, _, _, _, _, _]) rfl (fun K hK => ?_)
    iterate 6 (go_big_quiet_step (fail))
    refine wpQuiet_nil (hK _ ?_); clear hK K
    clear q0 q1 q2
    refine Dr.plan_e2 ?_ ?_
    · refine Dr.plan_e rfl (by rfl) (fun K hK => ?_)
      go_wp2_with fail
      refine (list_any A1 n1 c1 y.boxes W h1 (by omega) (hd.b.ext hbW)).mono ?_; rintro e X1 ⟨v1, rfl, hv1, hb1⟩
      refine hK _ _ (.of hb1) ?_; clear hK K
      obtain ⟨B1, d1, rfl, hc1, -, hC1, hF1⟩ := hv1
      rw [h1] at hc1 ⊢
      have sz1 := hb1.size
      have hbw_1 := ext_trans hbW hb1
      have hR_1 := hRW.ext hb1
      refine Dr.plan_e2 ?_ ?_
      · refine Dr.plan_e rfl (by rfl) (fun K hK => ?_)
        go_wp2_with fail
        refine (list_any A2 n2 c2 y.needs X1 h2 (by omega) (hd.n.ext hbw_1)).mono ?_; rintro e X2 ⟨v2, rfl, hv2, hb2⟩
        refine hK _ _ (.of hb2) ?_; clear hK K
        obtain ⟨B2, d2, rfl, hc2, -, hC2, hF2⟩ := hv2
        rw [h2] at hc2 ⊢
        have sz2 := hb2.size
        have hbw_2 := ext_trans hbw_1 hb2
        have hR_2 := hR_1.ext hb2
        have hC1_2 := hC1.ext hb2
        refine Dr.plan_e rfl (by rfl) (fun K hK => ?_)
        go_wp2_with fail
        refine hK _ _ (.of (ext_alloc X2 (.cells #[] 64))) ?_; clear hK K
        have ow3 := own_new (α := Int × Int) X2 64 2 encP
        have sz3 : (X2.alloc (.cells #[] 64)).heap.size = X2.heap.size + 1 := by simp
        have hbw_3 := ext_trans hbw_2 (ext_alloc X2 (.cells #[] 64))
        have hR_3 := hR_2.ext (ext_alloc X2 (.cells #[] 64))
        have hC1_3 := hC1_2.ext (ext_alloc X2 (.cells #[] 64))
        have hC2_3 := hC2.ext (ext_alloc X2 (.cells #[] 64))
        have hne1 : ∀ b, B1.map (·.block) = some b → some b ≠ some X2.heap.size := fun b hb e => by have := hF1 b hb; cases e; omega
        have hne2 : ∀ b, B2.map (·.block) = some b → some b ≠ some X2.heap.size := fun b hb e => by have := hF2 b hb; cases e; omega
        have HsW2 := HsW.out
        refine Dr.plan_done (tl := [_, _, _]) rfl ?_
        go_wp2_with (at_builtin; refine app_rows encP 55 64 2 16 et55 (by decide) (by decide) (fun _ => rfl) encP_one rfl _ _ rfl X2.heap.size (.slice (some ⟨X2.heap.size, 0, none⟩) 0 0) [] rfl ow3 A3 n3 c3 y.foes h3 rfl (hd.f.ext hbw_3) (by simp; omega) (by omega) ?_; intro v' w' hown hbl hgr hat; rw [List.nil_append] at hown; obtain ⟨B3, d3, hv3, hc3, -, hC3⟩ := hown.cells (fun _ => rfl); rw [h3] at hv3 hc3; subst hv3; have hRz := hR_3.under hbl (by omega); have z0 : w'.cell? ⟨w.heap.size + 1, 0, none⟩ = _ := hRz.cell rfl; have z1 : w'.cell? ⟨w.heap.size + 1, 1, none⟩ = _ := hRz.cell rfl; have z2 : w'.cell? ⟨w.heap.size + 1, 2, none⟩ = _ := hRz.cell rfl; have f0 := hRz.free 0; have f1 := hRz.free 1; have f2 := hRz.free 2)
        go_meet
        case rel =>
          have q1 := Cells.far hC1_3 hgr (fun b hb => by simpa [Value.ownBlock] using hne1 b hb)
          have q2 := Cells.far hC2_3 hgr (fun b hb => by simpa [Value.ownBlock] using hne2 b hb)
          have n1' : ∀ b, B1.map (·.block) = some b → b ≠ w.heap.size + 1 := fun b hb e => by have := hF1 b hb; omega
          have n2' : ∀ b, B2.map (·.block) = some b → b ≠ w.heap.size + 1 := fun b hb e => by have := hF2 b hb; omega
          have n3' : ∀ b, B3.map (·.block) = some b → b ≠ w.heap.size + 1 := fun b hb e => by have := hown.block_ge rfl b hb; omega
          have hbz := hbw_3.trans (hbl.mono (by omega))
          exact yard_fin hbz hRz q1 q2 hC3 n1' n2' n3' hc1 hc2 hc3
      · refine Dr.plan_e rfl (by rfl) (fun K hK => ?_)
        go_wp2_with fail
        refine hK _ _ (.of (ext_alloc X1 (.cells #[] 64))) ?_; clear hK K
        have ow2 := own_new (α := Int × Int) X1 64 2 encP
        have sz2 : (X1.alloc (.cells #[] 64)).heap.size = X1.heap.size + 1 := by simp
        have hbw_2 := ext_trans hbw_1 (ext_alloc X1 (.cells #[] 64))
        have hR_2 := hR_1.ext (ext_alloc X1 (.cells #[] 64))
        have hC1_2 := hC1.ext (ext_alloc X1 (.cells #[] 64))
        refine Dr.plan_e rfl (by rfl) (fun K hK => ?_)
        go_wp2_with fail
        refine (list_any A2 n2 c2 y.needs (X1.alloc (.cells #[] 64)) h2 (by omega) (hd.n.ext hbw_2)).mono ?_; rintro e X3 ⟨v2, rfl, hv2, hb3⟩
        refine hK _ _ (.of hb3) ?_; clear hK K
        obtain ⟨B2, d2, rfl, hc2, -, hC2, hF2⟩ := hv2
        rw [h2] at hc2 ⊢
        have sz3 := hb3.size
        have hbw_3 := ext_trans hbw_2 hb3
        have hR_3 := hR_2.ext hb3
        have hC1_3 := hC1_2.ext hb3
        have ow2_3 := ow2.ext hb3
        have hne1 : ∀ b, B1.map (·.block) = some b → some b ≠ some X1.heap.size := fun b hb e => by have := hF1 b hb; cases e; omega
        have hne2 : ∀ b, B2.map (·.block) = some b → some b ≠ some X1.heap.size := fun b hb e => by have := hF2 b hb; cases e; omega
        have HsW2 := HsW.out
        refine Dr.plan_done (tl := [_, _, _]) rfl ?_
        go_wp2_with (at_builtin; refine app_rows encP 55 64 2 16 et55 (by decide) (by decide) (fun _ => rfl) encP_one rfl _ _ rfl X1.heap.size (.slice (some ⟨X1.heap.size, 0, none⟩) 0 0) [] rfl ow2_3 A3 n3 c3 y.foes h3 rfl (hd.f.ext hbw_3) (by simp; omega) (by omega) ?_; intro v' w' hown hbl hgr hat; rw [List.nil_append] at hown; obtain ⟨B3, d3, hv3, hc3, -, hC3⟩ := hown.cells (fun _ => rfl); rw [h3] at hv3 hc3; subst hv3; have hRz := hR_3.under hbl (by omega); have z0 : w'.cell? ⟨w.heap.size + 1, 0, none⟩ = _ := hRz.cell rfl; have z1 : w'.cell? ⟨w.heap.size + 1, 1, none⟩ = _ := hRz.cell rfl; have z2 : w'.cell? ⟨w.heap.size + 1, 2, none⟩ = _ := hRz.cell rfl; have f0 := hRz.free 0; have f1 := hRz.free 1; have f2 := hRz.free 2)
        go_meet
        case rel =>
          have q1 := Cells.far hC1_3 hgr (fun b hb => by simpa [Value.ownBlock] using hne1 b hb)
          have q2 := Cells.far hC2 hgr (fun b hb => by simpa [Value.ownBlock] using hne2 b hb)
          have n1' : ∀ b, B1.map (·.block) = some b → b ≠ w.heap.size + 1 := fun b hb e => by have := hF1 b hb; omega
          have n2' : ∀ b, B2.map (·.block) = some b → b ≠ w.heap.size + 1 := fun b hb e => by have := hF2 b hb; omega
          have n3' : ∀ b, B3.map (·.block) = some b → b ≠ w.heap.size + 1 := fun b hb e => by have := hown.block_ge rfl b hb; omega
          have hbz := hbw_3.trans (hbl.mono (by omega))
          exact yard_fin hbz hRz q1 q2 hC3 n1' n2' n3' hc1 hc2 hc3
    · refine Dr.plan_e rfl (by rfl) (fun K hK => ?_)
      go_wp2_with fail
      refine hK _ _ (.of (ext_alloc W (.cells #[] 64))) ?_; clear hK K
      have ow1 := own_new (α := Int × Int) W 64 2 encP
      have sz1 : (W.alloc (.cells #[] 64)).heap.size = W.heap.size + 1 := by simp
      have hbw_1 := ext_trans hbW (ext_alloc W (.cells #[] 64))
      have hR_1 := hRW.ext (ext_alloc W (.cells #[] 64))
      refine Dr.plan_e rfl (by rfl) (fun K hK => ?_)
      go_wp2_with fail
      refine (list_any A1 n1 c1 y.boxes (W.alloc (.cells #[] 64)) h1 (by omega) (hd.b.ext hbw_1)).mono ?_; rintro e X2 ⟨v1, rfl, hv1, hb2⟩
      refine hK _ _ (.of hb2) ?_; clear hK K
      obtain ⟨B1, d1, rfl, hc1, -, hC1, hF1⟩ := hv1
      rw [h1] at hc1 ⊢
      have sz2 := hb2.size
      have hbw_2 := ext_trans hbw_1 hb2
      have hR_2 := hR_1.ext hb2
      have ow1_2 := ow1.ext hb2
      refine Dr.plan_e rfl (by rfl) (fun K hK => ?_)
      go_wp2_with fail
      refine (list_any A2 n2 c2 y.needs X2 h2 (by omega) (hd.n.ext hbw_2)).mono ?_; rintro e X3 ⟨v2, rfl, hv2, hb3⟩
      refine hK _ _ (.of hb3) ?_; clear hK K
      obtain ⟨B2, d2, rfl, hc2, -, hC2, hF2⟩ := hv2
      rw [h2] at hc2 ⊢
      have sz3 := hb3.size
      have hbw_3 := ext_trans hbw_2 hb3
      have hR_3 := hR_2.ext hb3
      have ow1_3 := ow1_2.ext hb3
      have hC1_3 := hC1.ext hb3
      have hne1 : ∀ b, B1.map (·.block) = some b → some b ≠ some W.heap.size := fun b hb e => by have := hF1 b hb; cases e; omega
      have hne2 : ∀ b, B2.map (·.block) = some b → some b ≠ some W.heap.size := fun b hb e => by have := hF2 b hb; cases e; omega
      have HsW2 := HsW.out
      refine Dr.plan_done (tl := [_, _, _]) rfl ?_
      go_wp2_with (at_builtin; refine app_rows encP 55 64 2 16 et55 (by decide) (by decide) (fun _ => rfl) encP_one rfl _ _ rfl W.heap.size (.slice (some ⟨W.heap.size, 0, none⟩) 0 0) [] rfl ow1_3 A3 n3 c3 y.foes h3 rfl (hd.f.ext hbw_3) (by simp; omega) (by omega) ?_; intro v' w' hown hbl hgr hat; rw [List.nil_append] at hown; obtain ⟨B3, d3, hv3, hc3, -, hC3⟩ := hown.cells (fun _ => rfl); rw [h3] at hv3 hc3; subst hv3; have hRz := hR_3.under hbl (by omega); have z0 : w'.cell? ⟨w.heap.size + 1, 0, none⟩ = _ := hRz.cell rfl; have z1 : w'.cell? ⟨w.heap.size + 1, 1, none⟩ = _ := hRz.cell rfl; have z2 : w'.cell? ⟨w.heap.size + 1, 2, none⟩ = _ := hRz.cell rfl; have f0 := hRz.free 0; have f1 := hRz.free 1; have f2 := hRz.free 2)
      go_meet
      case rel =>
        have q1 := Cells.far hC1_3 hgr (fun b hb => by simpa [Value.ownBlock] using hne1 b hb)
        have q2 := Cells.far hC2 hgr (fun b hb => by simpa [Value.ownBlock] using hne2 b hb)
        have n1' : ∀ b, B1.map (·.block) = some b → b ≠ w.heap.size + 1 := fun b hb e => by have := hF1 b hb; omega
        have n2' : ∀ b, B2.map (·.block) = some b → b ≠ w.heap.size + 1 := fun b hb e => by have := hF2 b hb; omega
        have n3' : ∀ b, B3.map (·.block) = some b → b ≠ w.heap.size + 1 := fun b hb e => by have := hown.block_ge rfl b hb; omega
        have hbz := hbw_3.trans (hbl.mono (by omega))
        exact yard_fin hbz hRz q1 q2 hC3 n1' n2' n3' hc1 hc2 hc3
  case rest =>
    obtain ⟨B1, B2, B3, d1, d2, d3, rfl, hb, hR, hY, hcs⟩ := hcut
    clear hb0 hB0 hR0 Hs0
    have s0 : wc.cell? ⟨w.heap.size + 1, 0, none⟩ = _ := hR.cell rfl
    have s1 : wc.cell? ⟨w.heap.size + 1, 1, none⟩ = _ := hR.cell rfl
    have s2 : wc.cell? ⟨w.heap.size + 1, 2, none⟩ = _ := hR.cell rfl
    go_wp2
    refine bodyPost_ret (v := .agg #[.slice B1 n1 d1, .slice B2 n2 d2, .slice B3 n3 d3]) (by simp [results, Try.results34, go_sem, s0, s1, s2]) rfl ?_
    exact ⟨B1, B2, B3, d1, d2, d3, rfl, hY, hcs, hb⟩
end Go.Proofs.Ytopfhinnamhoiaa

/- Walk: slices.Collect over the boxes in which the next animal fits; Stands. -/
namespace Go.Proofs.Ytopfhinnamhoiaa
open Go.RowKit Go.Bs Go.Yd Go.Pl Go.Sort

def ixI {n : Nat} (l : List (Ix n)) : List Int := l.map fun x => (x.1 : Int)
theorem ixI_snoc {n : Nat} (l : List (Ix n)) (x : Ix n) : ixI (l ++ [x]) = ixI l ++ [(x.1 : Int)] := by simp [ixI]
/-- What stands in memory between two rounds of AppendSeq. -/
structure SqI (W X : World) (v : Value) (l : List Int) : Prop where
  bl : Below W.heap.size W X
  b : Blk X W.heap.size 24 [v]
  own : OwnL X (W.heap.size + 1) 3 1 encI v l
theorem SqI.grown {W X Y : World} {v : Value} {l : List Int} {row : Option Nat} (h : SqI W X v l) (hg : X.grownBy Y row) (hr : ∀ b, row = some b → W.heap.size + 1 ≤ b ∧ v.ownBlock ≠ some b) : SqI W Y v l := by
  refine ⟨h.bl.grown hg h.bl.size (fun k e => by have := (hr k e).1; omega), (hg.block _ h.b.lt (fun e => by have := (hr _ e.symm).1; omega)).trans h.b, h.own.kept hg ?_⟩
  cases row with
  | none =>
    cases hv : v.ownBlock with
    | none => exact .inl rfl
    | some k => exact .inr (by simp)
  | some b => exact .inr (hr b rfl).2
theorem own_isCells {α : Type} {w : World} {base : Nat} {e : TypeId} {sz : Nat} {enc : α → List Value} {v : Value} {l : List α} (h : OwnL w base e sz enc v l) {k : Nat} (hk : v.ownBlock = some k) {o : Obj} (ho : w.heap[k]? = some o) : o.isCells = true := by
  rcases h.2 with ⟨rfl, _⟩ | ⟨g, cap, cur, rfl, _, hg, _, _, _, _⟩
  · simp [Value.ownBlock] at hk
  · simp [Value.ownBlock] at hk
    subst hk
    rw [hg] at ho
    cases ho
    rfl

attribute [local go_sem] run_store_func run_store_map Oper.semAt_some
set_option maxRecDepth 100000 in
set_option maxHeartbeats 4000000 in
theorem seq_any (y : Yrd) (A1 A2 A3 V : Option Addr) (n1 n2 n3 c1 c2 c3 m cm bm s : Nat) (ps : List (Nat × Nat)) (at_ : List Int) (W : World)
    (hn1 : y.boxes.length = n1) (hn2 : y.needs.length = n2) (hm : at_.length = m) (hmn : m < n2) (h8 : n2 ≤ 8) (h81 : n1 ≤ 1000) (hc2 : n2 ≤ c2) (hit : ItAt y A1 A2 A3 V n1 n2 n3 c1 c2 c3 m cm bm s ps at_ W) :
    Calls Try.prog 111 #[.slice none 0 0, .func (.func 112) #[] #[.pointer (some ⟨s, 0, none⟩), .pointer (some ⟨s + 3, 0, none⟩), .pointer (some ⟨s + 2, 0, none⟩), .pointer (some ⟨s + 1, 0, none⟩)]] W fun e W' =>
      ∃ v, e = .returned v ∧ FreshL W W' 1 encI v (ixI (freeIx (fits y ps at_) n1 n1 (Nat.le_refl _))) ∧ Below W.heap.size W W' := by
  have hst : SqI W (W.alloc (.cells #[.slice none 0 0] 24)) (.slice none 0 0) [] := ⟨ext_alloc W _, Blk.new W 24 [.slice none 0 0], OwnL.nil⟩
  have hbm : bm < W.heap.size := hit.p.lt
  refine (callsIn_wide (n := 40)).1 (callsIn_of_wp_marks Try.func111 rfl trivial ?_)
  simp only [Try.ntmps111, List.size_toArray, List.length_cons, List.length_nil, Nat.reduceAdd, Nat.reduceSub, Array.replicate_succ, Array.replicate_zero, List.push_toArray, List.append_toArray, List.nil_append, List.cons_append]
  refine wpIn_wide.2 ?_
  go_wp2
  have hsz1 : (W.alloc (.cells #[.slice none 0 0] 24)).heap.size = W.heap.size + 1 := by simp
  have hit1 := hit.ext (ext_alloc W (.cells #[.slice none 0 0] 24))
  generalize W.alloc (.cells #[.slice none 0 0] 24) = W1 at *
  generalize ha : Act.mk _ _ = a0
  refine wpIn_wide.1 (wpIn_rangeFunc_ownH (F := Fence.wide) (n := 40) rfl (by omega) (gf := 112) (lb := #[.pointer (some ⟨s, 0, none⟩), .pointer (some ⟨s + 3, 0, none⟩), .pointer (some ⟨s + 2, 0, none⟩), .pointer (some ⟨s + 1, 0, none⟩)]) (by rw [← ha]; rfl) trivial (enters_of Try.func112 (by kernel_rfl) rfl)
    (encs := fun x : Ix n1 => #[.int .i64 (x.1 : Int)]) (S := fun ys => ys = freeIx (fits y ps at_) n1 n1 (Nat.le_refl _)) (Sp := fun pre => ∃ k, ∃ h : k ≤ n1, pre = freeIx (fits y ps at_) n1 k h) (N := n1) (w0 := W1)
    (Kp := fun X Y => ItAt y A1 A2 A3 V n1 n2 n3 c1 c2 c3 m cm bm s ps at_ X → ItAt y A1 A2 A3 V n1 n2 n3 c1 c2 c3 m cm bm s ps at_ Y)
    (fun l J Jx Wx hWx _ _ hY h0 => free1_in y A1 A2 A3 V n1 n2 n3 c1 c2 c3 m cm bm s ps at_ 39 l (by omega) hn1 hn2 hm hmn h8 h81 hc2 J Jx hY Wx (hit1.ext hWx) h0)
    (fun h k x => k (h x)) (fun X l o o' hl ho hc _ hi => hi.put hl ho hc (by omega)) (Below.refl _ _) (fun _ => rfl)
    (fun pre X => ∃ v, SqI W X v (ixI pre))
    (fun _ _ _ => False)
    ?own (fun _ _ _ _ _ hs _ _ => hs) ⟨_, hst⟩
    (fun x a' _ => a' = { tmps := (a0.tmps.setIfInBounds 7 (.int .i64 (x.1 : Int))).setIfInBounds 5 (.int .i64 (x.1 : Int)), defers := [] })
    (fun _ _ _ _ _ _ hs _ _ => hs)
    ?assign ?body ?done ?stop)
  case own =>
    rintro pre X Y row ⟨v, hs⟩ hg hr
    exact ⟨v, hs.grown hg (fun b e => by
      obtain ⟨h1, o, ho, hc⟩ := hr b e
      refine ⟨by omega, fun e2 => ?_⟩
      rw [own_isCells hs.own e2 ho] at hc
      cases hc)⟩
  case assign =>
    subst ha
    rintro l pre x X K hs hK
    gi_wp2
    exact hK _ _ (KeepsFrom.refl _ _) (fun h => h) hs rfl
  case body =>
    subst ha
    rintro l pre x a' X hl ⟨r, hr⟩ ⟨v, hs⟩ rfl hlt
    simp only [List.setIfInBounds_toArray, List.set_cons_succ, List.set_cons_zero]
    gi_upto_region 3 with fail
    have hXs := hs.b.lt
    have hpre : (ixI pre).length ≤ n1 := by simp [ixI]; omega
    have x2 : X.cell? ⟨W.heap.size, 0, none⟩ = _ := hs.b.cell rfl
    refine Dr.wpIn_region_of rfl ?q (by kernel_rfl) ?_
    case q => rintro ⟨_, _, h⟩; exact h
    have hs1 := hs.bl.alloc (by have := hs.bl.size; omega) (.cells #[.int .i64 (x.1 : Int)] 3)
    have hB1 := hs.b.alloc (.cells #[.int .i64 (x.1 : Int)] 3)
    have ho1 := hs.own.alloc (.cells #[.int .i64 (x.1 : Int)] 3)
    go_wp2_with (at_builtin; refine app1 encI 24 3 1 8 et24 (by decide) (by decide) encI_len encI_one rfl _ _ rfl (W.heap.size + 1) v (ixI pre) rfl ho1 X.heap.size rfl (x.1 : Int) (encI_cell (by simp)) (by omega) (by simp; omega) ?_; intro g' cap' w' hown hb3 hgr hat; have hB3 := hB1.under hb3 (by omega); have z2 : w'.cell? ⟨W.heap.size, 0, none⟩ = some v := hB3.cell rfl; have f2 := hB3.free 0)
    have hbl : Below W.heap.size W (w'.setCell ⟨W.heap.size, 0, none⟩ (.slice (some ⟨g', 0, none⟩) ((ixI pre).length + 1) cap')) := (hs1.trans (hb3.mono (by omega))).setCell (by simp) _
    have hkf : KeepsFrom W1.heap.size X w' := by
      refine ⟨by have := hgr.size; simp at this; omega, fun k o hk h ho => ?_⟩
      have hkX : k < X.heap.size := (Array.getElem?_eq_some_iff.1 h).1
      have e1 : (X.alloc (.cells #[.int .i64 (x.1 : Int)] 3)).heap[k]? = X.heap[k]? := (ext_alloc X _).block k hkX
      have e2 : w'.heap[k]? = (X.alloc (.cells #[.int .i64 (x.1 : Int)] 3)).heap[k]? := hgr.block k (by simp; omega) (fun e => by
        rw [own_isCells hs.own e.symm h] at ho
        cases ho)
      rw [e2, e1]; exact h
    refine ⟨hkf.trans ((KeepsOthers.setCell _ _ _).from _), fun _ => hit.ext hbl, _, hbl, (hB3.set 0 _), ?_⟩
    rw [ixI_snoc]
    exact hown.setCell (by simp) _
  case done =>
    subst ha
    rintro D ys X hD rfl ⟨v, hs⟩ hK
    obtain ⟨Av, cv, rfl, k1, k2, k3⟩ := hs.own.cells encI_len
    have x2 : X.cell? ⟨W.heap.size, 0, none⟩ = _ := hs.b.cell rfl
    go_wp2
    have hrow : ∀ r, some D = some r → ∃ o : Obj, X.heap[r]? = some o ∧ o.isCells = false := fun r e => by cases e; exact ⟨_, hK, rfl⟩
    have hg := grownBy_putObj' X D (.deferred none)
    have hX1 : W.heap.size + 1 ≤ D := by omega
    refine ⟨by simp, .inl ⟨_, _, rfl, run_takeDeferred hK, .slice Av (ixI (freeIx (fits y ps at_) n1 n1 (Nat.le_refl n1))).length cv, by simp [results, Try.results111, go_sem], _, rfl, ⟨Av, cv, rfl, k1, k2, ?_, fun k hk => ?_⟩, ?_⟩⟩
    · intro i x hi
      obtain ⟨b, off, hA, hcl⟩ := k3 i x hi
      exact ⟨b, off, hA, fun j v hj => cell_kept (hcl j v hj) hg hrow⟩
    · have h1 := hs.own.block_ge rfl k hk
      have h2 := hg.size
      omega
    · exact hs.bl.grown hg hs.bl.size (fun k e => by cases e; omega)
  case stop =>
    rintro D c pre X _ _ h _
    exact h.elim
end Go.Proofs.Ytopfhinnamhoiaa

/- Walk: Collect, Stands. -/
namespace Go.Proofs.Ytopfhinnamhoiaa
open Go.RowKit Go.Bs Go.Yd Go.Pl Go.Sort

theorem collect_any (y : Yrd) (A1 A2 A3 V : Option Addr) (n1 n2 n3 c1 c2 c3 m cm bm s : Nat) (ps : List (Nat × Nat)) (at_ : List Int) (W : World)
    (hn1 : y.boxes.length = n1) (hn2 : y.needs.length = n2) (hm : at_.length = m) (hmn : m < n2) (h8 : n2 ≤ 8) (h81 : n1 ≤ 1000) (hc2 : n2 ≤ c2) (hit : ItAt y A1 A2 A3 V n1 n2 n3 c1 c2 c3 m cm bm s ps at_ W) :
    Calls Try.prog 84 #[.func (.func 112) #[] #[.pointer (some ⟨s, 0, none⟩), .pointer (some ⟨s + 3, 0, none⟩), .pointer (some ⟨s + 2, 0, none⟩), .pointer (some ⟨s + 1, 0, none⟩)]] W fun e W' =>
      ∃ v, e = .returned v ∧ FreshL W W' 1 encI v (ixI (freeIx (fits y ps at_) n1 n1 (Nat.le_refl _))) ∧ Below W.heap.size W W' := by
  go_enter Try.func84, Try.ntmps84
  go_wp2_with fail
  refine (seq_any y A1 A2 A3 V n1 n2 n3 c1 c2 c3 m cm bm s ps at_ W hn1 hn2 hm hmn h8 h81 hc2 hit).mono ?_
  rintro e w1 ⟨v, rfl, hv, hb⟩
  go_wp2
  go_ret
  exact ⟨_, rfl, hv, hb⟩

theorem ixI_mem {y : Yrd} {ps : List (Nat × Nat)} {n1 : Nat} {at_ : List Int} {q : Int} : (ixI (freeIx (fits y ps at_) n1 n1 (Nat.le_refl _))).contains q = okPlace y ps n1 at_ q := by
  cases h : okPlace y ps n1 at_ q
  · rw [List.contains_eq_any_beq, List.any_eq_false]
    intro x hx
    simp only [ixI, List.mem_map] at hx
    obtain ⟨z, hz, rfl⟩ := hx
    intro e
    have : okPlace y ps n1 at_ q = true := okPlace_ix.2 ⟨z, hz, by simpa using (eq_of_beq e).symm⟩
    rw [h] at this; cases this
  · obtain ⟨z, hz, rfl⟩ := okPlace_ix.1 h
    rw [List.contains_eq_any_beq, List.any_eq_true]
    exact ⟨(z.1 : Int), List.mem_map.2 ⟨z, hz, rfl⟩, by simp⟩

set_option maxRecDepth 100000 in
set_option maxHeartbeats 4000000 in
theorem Stands_any (y : Yrd) (A1 A2 A3 V : Option Addr) (n1 n2 n3 c1 c2 c3 m cm : Nat) (pl : List Int) (w : World) (h1 : y.boxes.length = n1) (h2 : y.needs.length = n2) (h3 : y.foes.length = n3) (hm : pl.length = m) (m1 : n1 ≤ 9223372036854775807) (m2 : n2 ≤ 9223372036854775807) (m3 : n3 ≤ 9223372036854775807) (mm : m ≤ 1000000000) (hc2 : n2 ≤ c2) (hcm : m ≤ cm) (hd : YdAt w y A1 A2 A3) (hv : Cells w V 1 encI pl) :
    Calls Try.prog 35 #[.agg #[.slice A1 n1 c1, .slice A2 n2 c2, .slice A3 n3 c3], .slice V m cm] w fun e w' => e = .returned (.bool (StandsB y pl)) ∧ Below w.heap.size w w' := by
  have hb0 := ext_alloc w (.cells #[.slice A1 n1 c1, .slice A2 n2 c2, .slice A3 n3 c3] 61)
  have hB := Blk.new w 61 [.slice A1 n1 c1, .slice A2 n2 c2, .slice A3 n3 c3]
  have HV := Lib.hid (yvalid_any y A1 A2 A3 n1 n2 n3 c1 c2 c3 _ h1 h2 h3 m1 m2 m3 (hd.ext hb0))
  have hS : StandsB y pl = (Yrd.okB y && (decide (m = n2) && arrP y (foeL y.foes) n1 [] pl)) := by unfold StandsB; rw [h1, h2, hm]
  generalize hres : StandsB y pl = res
  rw [hres] at hS
  have HS := Lib.hid hS
  clear hS hres
  cases hv0 : Yrd.okB y
  · rw [hv0] at HV
    have Hr := Lib.hid (show res = false by rw [HS.out, hv0]; rfl)
    clear hv0
    go_enter Try.func35, Try.ntmps35
    go_wp2_with fail
    refine HV.out.mono ?_; rintro e w1 ⟨rfl, hb1⟩
    go_wp2
    go_ret
    exact ⟨ret_congr (bool_congr Hr.out.symm), ext_trans hb0 hb1⟩
  · rw [hv0] at HV
    obtain ⟨k1, k2, k3, k4, k5, k6⟩ := Yrd.okB_spec hv0
    by_cases hmn : m = n2
    · subst hmn
      have hS : res = arrP y (foeL y.foes) n1 [] pl := by rw [HS.out, hv0, decide_eq_true rfl]; rfl
      have HS2 := Lib.hid hS
      have Hi := Lib.hid (arrP_iff (y := y) (ps := foeL y.foes) (n1 := n1) pl [])
      clear hS hv0 HS k4 k5
      go_enter Try.func35, Try.ntmps35
      go_wp2_with fail
      refine HV.out.mono ?_; rintro e w1 ⟨rfl, hb1⟩
      have hb2 := ext_trans hb0 hb1
      have hB2 := hB.ext hb1
      have x0 : w1.cell? ⟨w.heap.size, 0, none⟩ = _ := hB2.cell rfl
      have x1 : w1.cell? ⟨w.heap.size, 1, none⟩ = _ := hB2.cell rfl
      have x2 : w1.cell? ⟨w.heap.size, 2, none⟩ = _ := hB2.cell rfl
      clear hb0 hb1 hB HV
      go_wp2_with fail
      refine (foes_any y A1 A2 A3 n1 m n3 c1 c2 c3 w1 h3 (by omega) (hd.ext hb2) (fun p hp => by have := k6 p hp; omega)).mono ?_
      rintro e w2 ⟨bm, rfl, hbm, hpm, hb3⟩
      have hb4 := ext_trans hb2 hb3
      have hB4 := hB2.ext hb3
      have K6 := Lib.hid k6
      have H1 := Lib.hid h1
      have H2 := Lib.hid h2
      clear hb2 hb3 hB2 x0 x1 x2 k6
      go_wp2
      go_loopw [23] (fun x wr => ∃ k : Nat, x = .int .i64 k ∧ k ≤ m ∧ Hid (∀ i (h : i < pl.length), i < k → okPlace y (foeL y.foes) n1 (pl.take i) pl[i] = true) ∧ Below w.heap.size w wr ∧ Blk wr w.heap.size 61 [.slice A1 n1 c1, .slice A2 m c2, .slice A3 n3 c3] ∧ PMap wr bm (foeL y.foes)) (fun x _ => m - (intOf x).toNat)
      case atStart => exact ⟨0, rfl, by omega, Lib.hid (fun i h hi => by omega), hb4, hB4, hpm⟩
      case round =>
        clear hb4 hB4 hpm
        obtain ⟨k, rfl, hk, Hk, hb, hB, hpm⟩ := hrel
        by_cases hlt : k < m
        · have hlt' : (k : Int) < (m : Int) := by omega
          have hk0 : (0 : Int) ≤ (k : Int) := by omega
          have hkl : k < pl.length := by omega
          have hkc : (k : Int) ≤ (cm : Int) := by omega
          obtain ⟨bv, ov, rfl, -, d0⟩ := (hv.ext hb).at1 hkl rfl
          have hcut := run_cut_hi Try.underlying24 sz3 (some ⟨bv, ov, none⟩) m cm k (by omega)
          have Hst := Lib.hid (show okPlace y (foeL y.foes) n1 (pl.take k) pl[k] = (ixI (freeIx (fits y (foeL y.foes) (pl.take k)) n1 n1 (Nat.le_refl _))).contains pl[k] from ixI_mem.symm)
          have htk : (pl.take k).length = k := by simp; omega
          have hHk : ∀ b, okPlace y (foeL y.foes) n1 (pl.take k) pl[k] = b → (b = true → ∀ i (h : i < pl.length), i < k + 1 → okPlace y (foeL y.foes) n1 (pl.take i) pl[i] = true) ∧ (b = false → res = false) := by
            intro b hb'
            constructor
            · rintro rfl i hi hik
              by_cases e : i = k
              · subst e; exact hb'
              · exact Hk.out i hi (by omega)
            · rintro rfl
              rw [HS2.out]
              cases hr : arrP y (foeL y.foes) n1 [] pl
              · rfl
              · have := Hi.out.1 hr k hkl
                rw [List.nil_append, hb'] at this; cases this
          have HHk := Lib.hid hHk
          clear hHk
          have x0 : wr.cell? ⟨w.heap.size, 0, none⟩ = _ := hB.cell rfl
          generalize hq : pl[k] = q at *
          have Hq := Lib.hid hq
          clear hq
          go_upto_region 7 with fail
          clear d0 x0
          refine Dr.wp_region_plan 10 [] (.q [0, 1, 2, 3, 4, 7] (.e1 5 (.e1 6 (.e1 8 (.q [9] .done))))) (by kernel_rfl) (by kernel_rfl) ?_
          have hb1 := hb.drew
          have hB1 := hB.ext (ext_drew wr)
          have hpm1 := hpm.ext (ext_drew wr)
          clear hb hB hpm
          generalize World.drew _ = W at *
          have q0 := Dr.cell0 (hB1.cell (i := 0) rfl)
          have q1 := Dr.cell0 (hB1.cell (i := 1) rfl)
          have q2 := Dr.cell0 (hB1.cell (i := 2) rfl)
          refine Dr.plan_q (l := [_, _, _, _, _, _]) rfl (fun K hK => ?_)
          iterate 6 (go_big_quiet_step (fail))
          refine wpQuiet_nil (hK _ ?_); clear hK K
          clear q0 q1 q2 hcut
          refine Dr.plan_e rfl (by rfl) (fun K hK => ?_)
          go_wp2_with fail
          refine (free_any y A1 A2 A3 (cutA (some ⟨bv, ov, none⟩) 1 cm 0) n1 m n3 c1 c2 c3 k cm bm W).mono ?_
          rintro e w5 ⟨rfl, hw5⟩
          have hb5 : Below W.heap.size W w5 := by rw [hw5]; exact (((ext_alloc W _).alloc (by simp) _).alloc (by simp; omega) _).alloc (by simp; omega) _
          refine hK _ _ (.of hb5) ?_; clear hK K
          have hit : ItAt y A1 A2 A3 (cutA (some ⟨bv, ov, none⟩) 1 cm 0) n1 m n3 c1 c2 c3 k cm bm W.heap.size (foeL y.foes) (pl.take k) w5 := by
            have hv' := ((hv.ext hb1).ext hb5).cut0 (cap := cm) (hi := k) (by omega)
            have hd' := (hd.ext hb1).ext hb5
            have hp' := hpm1.ext hb5
            have t0 : Blk w5 W.heap.size 61 [.slice A1 n1 c1, .slice A2 m c2, .slice A3 n3 c3] := by
              rw [hw5]; exact (((Blk.new W 61 [.slice A1 n1 c1, .slice A2 m c2, .slice A3 n3 c3]).alloc _).alloc _).alloc _
            have t1 : Blk w5 (W.heap.size + 1) 138 [.map (some bm)] := by
              have := ((Blk.new (W.alloc (.cells #[.slice A1 n1 c1, .slice A2 m c2, .slice A3 n3 c3] 61)) 138 [.map (some bm)]).alloc (.cells #[.slice (cutA (some ⟨bv, ov, none⟩) 1 cm 0) k cm] 24)).alloc (.cells #[.int .i64 (k : Int)] 3)
              rw [hw5]; simpa using this
            have t2 : Blk w5 (W.heap.size + 2) 24 [.slice (cutA (some ⟨bv, ov, none⟩) 1 cm 0) k cm] := by
              have := (Blk.new ((W.alloc (.cells #[.slice A1 n1 c1, .slice A2 m c2, .slice A3 n3 c3] 61)).alloc (.cells #[.map (some bm)] 138)) 24 [.slice (cutA (some ⟨bv, ov, none⟩) 1 cm 0) k cm]).alloc (.cells #[.int .i64 (k : Int)] 3)
              rw [hw5]; simpa using this
            have t3 : Blk w5 (W.heap.size + 3) 3 [.int .i64 (k : Int)] := by
              have := Blk.new (((W.alloc (.cells #[.slice A1 n1 c1, .slice A2 m c2, .slice A3 n3 c3] 61)).alloc (.cells #[.map (some bm)] 138)).alloc (.cells #[.slice (cutA (some ⟨bv, ov, none⟩) 1 cm 0) k cm] 24)) 3 [.int .i64 (k : Int)]
              rw [hw5]; simpa using this
            exact ⟨t0.cell rfl, t0.cell rfl, t1.cell rfl, t2.cell rfl, t3.cell rfl, hd'.b, hd'.n, hv', hp'⟩
          have hb6 := ext_trans hb1 hb5
          have hB6 := hB1.ext hb5
          have hpm6 := hpm1.ext hb5
          clear hw5 hb1 hB1 hpm1
          refine Dr.plan_e rfl (by rfl) (fun K hK => ?_)
          go_wp2_with fail
          refine (collect_any y A1 A2 A3 (cutA (some ⟨bv, ov, none⟩) 1 cm 0) n1 m n3 c1 c2 c3 k cm bm W.heap.size (foeL y.foes) (pl.take k) w5 H1.out H2.out htk hlt (by omega) (by omega) hc2 hit).mono ?_
          rintro e w6 ⟨v6, rfl, hv6, hb7⟩
          obtain ⟨A6, c6, rfl, -, -, hC6, -⟩ := hv6
          refine hK _ _ (.of hb7) ?_; clear hK K
          have hb8 := ext_trans hb6 hb7
          have hB8 := hB6.ext hb7
          have hpm8 := hpm6.ext hb7
          clear hb6 hb7 hB6 hpm6 hit
          refine Dr.plan_e rfl (by rfl) (fun K hK => ?_)
          go_wp2_with fail
          refine (scontains_int q A6 _ c6 _ w6 rfl (by simp [ixI]; have := freeIx_len (fits y (foeL y.foes) (pl.take k)) n1 n1 (Nat.le_refl _); omega) hC6).mono ?_
          rintro e w7 ⟨rfl, rfl⟩
          rw [← Hst.out]
          refine hK _ _ (Dr.Bel.refl _ _) ?_; clear hK K
          generalize hok : okPlace y (foeL y.foes) n1 (pl.take k) q = ok at *
          refine Dr.plan_q (l := [_]) rfl (fun K hK => ?_)
          iterate 1 (go_big_quiet_step (fail))
          refine wpQuiet_nil (hK _ ?_); clear hK K
          refine Dr.plan_end rfl ?_
          have Hok := Lib.hid hok
          clear hok
          cases ok
          · have Hr := Lib.hid ((HHk.out false (by rw [← Hok.out])).2 rfl)
            go_wp2
            go_ret
            exact ⟨ret_congr (bool_congr Hr.out.symm), hb8⟩
          · have Hn := Lib.hid ((HHk.out true (by rw [← Hok.out])).1 rfl)
            go_wp2
            go_roundw
            case rel => exact ⟨k + 1, by go_num, by omega, Hn, hb8, hB8, hpm8⟩
            case measure => simp [intOf]; omega
        · obtain rfl : k = m := by omega
          have Hr := Lib.hid (show res = true by
            rw [HS2.out, Hi.out]
            intro i hi
            rw [List.nil_append]
            exact Hk.out i hi (by omega))
          go_wp2
          go_ret
          exact ⟨ret_congr (bool_congr Hr.out.symm), hb⟩
    · have Hr := Lib.hid (show res = false by rw [HS.out, decide_eq_false hmn]; simp)
      have hmn' : ((m : Int) != (n2 : Int)) = true := by simp; omega
      clear hmn HS hv0 k1 k2 k3 k4 k5 k6
      go_enter Try.func35, Try.ntmps35
      go_wp2_with fail
      refine HV.out.mono ?_; rintro e w1 ⟨rfl, hb1⟩
      have hB2 := hB.ext hb1
      have x1 : w1.cell? ⟨w.heap.size, 1, none⟩ = _ := hB2.cell rfl
      go_wp2
      go_ret
      exact ⟨ret_congr (bool_congr Hr.out.symm), ext_trans hb0 hb1⟩
end Go.Proofs.Ytopfhinnamhoiaa
