/- Sums of multiples of rows modulo a number: what is left of a row when multiples of rows, each with a first number 1, are taken from it is nothing just when the row is such a sum, and how many rows there are is told by the sums alone (plain law). -/
import Derived.Test.YtjjbaebddkejnaaCore
import Derived.Test.YtjjbaebddkejnaaPl08Inversex
import Derived.Test.YtjjbaebddkejnaaMv
namespace Go.Proofs.Ytjjbaebddkejnaa

abbrev Vec := Nat → Int

/-- Sums of multiples of rows, modulo p, at N places. -/
inductive Sp (p : Int) (N : Nat) (R : Vec → Prop) : Vec → Prop
  | zero {x : Vec} (h : ∀ k, k < N → p ∣ x k) : Sp p N R x
  | add {x y r : Vec} (c : Int) (hr : R r) (hy : Sp p N R y) (h : ∀ k, k < N → p ∣ x k - (y k + c * r k)) : Sp p N R x

theorem Sp.cong {p : Int} {N : Nat} {R : Vec → Prop} {x z : Vec} (hx : Sp p N R x) (h : ∀ k, k < N → p ∣ z k - x k) : Sp p N R z := by
  cases hx with
  | zero hz =>
    refine .zero fun k hk => ?_
    obtain ⟨u, hu⟩ := h k hk
    obtain ⟨v, hv⟩ := hz k hk
    exact ⟨u + v, by grind⟩
  | add c hr hy h' =>
    refine .add c hr hy fun k hk => ?_
    obtain ⟨u, hu⟩ := h k hk
    obtain ⟨v, hv⟩ := h' k hk
    exact ⟨u + v, by grind⟩
theorem Sp.lin {p : Int} {N : Nat} {R : Vec → Prop} {x y : Vec} (hx : Sp p N R x) (hy : Sp p N R y) (c : Int) : Sp p N R (fun k => x k + c * y k) := by
  induction hy with
  | zero h =>
    refine hx.cong fun k hk => ?_
    obtain ⟨u, hu⟩ := h k hk
    exact ⟨c * u, by grind⟩
  | @add z y' r c' hr hy' h ih =>
    refine .add (c * c') hr ih fun k hk => ?_
    obtain ⟨u, hu⟩ := h k hk
    exact ⟨c * u, by grind⟩
theorem Sp.row {p : Int} {N : Nat} {R : Vec → Prop} {r : Vec} (h : R r) : Sp p N R r :=
  .add (y := fun _ => 0) 1 h (.zero fun k _ => ⟨0, by simp⟩) fun k _ => ⟨0, by grind⟩
theorem Sp.mono {p : Int} {N : Nat} {R R' : Vec → Prop} {x : Vec} (hx : Sp p N R x) (h : ∀ r, R r → Sp p N R' r) : Sp p N R' x := by
  induction hx with
  | zero hz => exact .zero hz
  | @add z y r c hr hy h' ih =>
    refine (ih.lin (h r hr) c).cong fun k hk => ?_
    obtain ⟨u, hu⟩ := h' k hk
    exact ⟨u, by grind⟩

/-- A multiple of a row is taken away, so that nothing is left at a place. -/
def red1 (l : Nat) (r x : Vec) : Vec := fun k => x k - x l * r k
def red : List (Nat × Vec) → Vec → Vec
  | [], x => x
  | a :: rs, x => red rs (red1 a.1 a.2 x)
/-- A row that begins with a 1. -/
def RowP (p : Int) (N : Nat) (a : Nat × Vec) : Prop := a.1 < N ∧ p ∣ a.2 a.1 - 1 ∧ ∀ k, k < a.1 → p ∣ a.2 k
def Tri (p : Int) (rs : List (Nat × Vec)) : Prop := rs.Pairwise fun a b => p ∣ b.2 a.1
/-- The rows of a list. -/
def In (rs : List (Nat × Vec)) (r : Vec) : Prop := ∃ l, (l, r) ∈ rs

theorem red_lin (rs : List (Nat × Vec)) (x y : Vec) (c : Int) : red rs (fun k => x k + c * y k) = fun k => red rs x k + c * red rs y k := by
  induction rs generalizing x y with
  | nil => rfl
  | cons a rs ih =>
    simp only [red]
    rw [← ih]
    congr 1
    funext k
    simp only [red1]
    grind
theorem red_cong {p : Int} {N : Nat} {rs : List (Nat × Vec)} (hr : ∀ a ∈ rs, RowP p N a) {x y : Vec} (h : ∀ k, k < N → p ∣ x k - y k) : ∀ k, k < N → p ∣ red rs x k - red rs y k := by
  induction rs generalizing x y with
  | nil => exact h
  | cons a rs ih =>
    simp only [red]
    refine ih (fun b hb => hr b (List.mem_cons_of_mem _ hb)) fun k hk => ?_
    obtain ⟨u, hu⟩ := h k hk
    obtain ⟨v, hv⟩ := h a.1 (hr a List.mem_cons_self).1
    simp only [red1]
    exact ⟨u - v * a.2 k, by grind⟩
theorem red_zero {p : Int} {N : Nat} {rs : List (Nat × Vec)} (hr : ∀ a ∈ rs, RowP p N a) {x : Vec} (h : ∀ k, k < N → p ∣ x k) : ∀ k, k < N → p ∣ red rs x k := by
  induction rs generalizing x with
  | nil => exact h
  | cons a rs ih =>
    simp only [red]
    refine ih (fun b hb => hr b (List.mem_cons_of_mem _ hb)) fun k hk => ?_
    obtain ⟨u, hu⟩ := h k hk
    obtain ⟨v, hv⟩ := h a.1 (hr a List.mem_cons_self).1
    simp only [red1]
    exact ⟨u - v * a.2 k, by grind⟩
theorem red_sub {p : Int} {N : Nat} (rs : List (Nat × Vec)) (x : Vec) : Sp p N (In rs) (fun k => x k - red rs x k) := by
  induction rs generalizing x with
  | nil => exact .zero fun k _ => ⟨0, by simp [red]⟩
  | cons a rs ih =>
    simp only [red]
    refine .add (y := fun k => red1 a.1 a.2 x k - red rs (red1 a.1 a.2 x) k) (x a.1) ⟨a.1, List.mem_cons_self⟩ ((ih _).mono fun r hr => .row ?_) fun k _ => ⟨0, ?_⟩
    · obtain ⟨l, hl⟩ := hr
      exact ⟨l, List.mem_cons_of_mem _ hl⟩
    · simp only [red1]
      grind
theorem red_row {p : Int} {N : Nat} {rs : List (Nat × Vec)} (hr : ∀ a ∈ rs, RowP p N a) (ht : Tri p rs) {a : Nat × Vec} (ha : a ∈ rs) : ∀ k, k < N → p ∣ red rs a.2 k := by
  induction rs with
  | nil => exact absurd ha (by simp)
  | cons b rs ih =>
    simp only [red]
    have hr' := fun b hb => hr b (List.mem_cons_of_mem _ hb)
    have ht' := List.pairwise_cons.1 ht
    rcases List.mem_cons.1 ha with rfl | ha
    · refine red_zero hr' fun k hk => ?_
      obtain ⟨u, hu⟩ := (hr _ List.mem_cons_self).2.1
      simp only [red1]
      exact ⟨- u * a.2 k, by grind⟩
    · intro k hk
      obtain ⟨u, hu⟩ := red_cong (p := p) (N := N) hr' (x := red1 b.1 b.2 a.2) (y := a.2) (fun k hk => by
        obtain ⟨u, hu⟩ := ht'.1 a ha
        simp only [red1]
        exact ⟨- u * b.2 k, by grind⟩) k hk
      obtain ⟨v, hv⟩ := ih hr' ht'.2 ha k hk
      exact ⟨u + v, by grind⟩
theorem red_kill {p : Int} {N : Nat} {rs : List (Nat × Vec)} (hr : ∀ a ∈ rs, RowP p N a) (ht : Tri p rs) {x : Vec} (hx : Sp p N (In rs) x) : ∀ k, k < N → p ∣ red rs x k := by
  induction hx with
  | zero h => exact red_zero hr h
  | @add z y r c hi hy h ih =>
    intro k hk
    obtain ⟨u, hu⟩ := red_cong hr h k hk
    rw [red_lin] at hu
    obtain ⟨l, hl⟩ := hi
    obtain ⟨v, hv⟩ := red_row hr ht hl k hk
    obtain ⟨t, ht⟩ := ih k hk
    simp only at hu hv ht
    exact ⟨u + t + c * v, by grind⟩
theorem red_zero_iff {p : Int} {N : Nat} {rs : List (Nat × Vec)} (hr : ∀ a ∈ rs, RowP p N a) (ht : Tri p rs) {x : Vec} : (∀ k, k < N → p ∣ red rs x k) ↔ Sp p N (In rs) x := by
  refine ⟨fun h => (red_sub (p := p) (N := N) rs x).cong fun k hk => ?_, red_kill hr ht⟩
  obtain ⟨u, hu⟩ := h k hk
  exact ⟨u, by grind⟩
theorem red_lead {p : Int} {N : Nat} {rs : List (Nat × Vec)} (hr : ∀ a ∈ rs, RowP p N a) {x : Vec} {i : Nat} (hx : ∀ k, k < i → p ∣ x k) (hl : ∀ a ∈ rs, a.1 ≠ i) : p ∣ red rs x i - x i := by
  induction rs generalizing x with
  | nil => exact ⟨0, by simp [red]⟩
  | cons a rs ih =>
    simp only [red]
    have hr' := fun b hb => hr b (List.mem_cons_of_mem _ hb)
    have ha := hr a List.mem_cons_self
    have hc : ∀ k, k ≤ i → p ∣ red1 a.1 a.2 x k - x k := by
      intro k hk
      simp only [red1]
      by_cases h : a.1 < i
      · obtain ⟨u, hu⟩ := hx a.1 h
        exact ⟨- u * a.2 k, by grind⟩
      · obtain ⟨u, hu⟩ := ha.2.2 k (by have := hl a List.mem_cons_self; omega)
        exact ⟨- u * x a.1, by grind⟩
    obtain ⟨u, hu⟩ := ih hr' (x := red1 a.1 a.2 x) (fun k hk => by
      obtain ⟨u, hu⟩ := hc k (by omega)
      obtain ⟨v, hv⟩ := hx k hk
      exact ⟨u + v, by grind⟩) (fun b hb => hl b (List.mem_cons_of_mem _ hb))
    obtain ⟨v, hv⟩ := hc i (Nat.le_refl i)
    exact ⟨u + v, by grind⟩

/-- Rows that begin at different places. -/
structure Bas (p : Int) (N : Nat) (rs : List (Nat × Vec)) : Prop where
  row : ∀ a ∈ rs, RowP p N a
  dif : (rs.map Prod.fst).Nodup
theorem Bas.lead {p : Int} {N : Nat} {rs : List (Nat × Vec)} (h : Bas p N rs) {x : Vec} (hx : Sp p N (In rs) x) {i : Nat} (hi : i < N) (h0 : ∀ k, k < i → p ∣ x k) (h1 : ¬ p ∣ x i) : i ∈ rs.map Prod.fst := by
  let S := rs.mergeSort fun a b => decide (a.1 ≤ b.1)
  have hp : S.Perm rs := List.mergeSort_perm rs _
  have hs : S.Pairwise fun a b => decide (a.1 ≤ b.1) = true := List.pairwise_mergeSort (fun a b c h1 h2 => by simp at *; omega) (fun a b => by simp; omega) rs
  have hd : (S.map Prod.fst).Nodup := (hp.map Prod.fst).nodup_iff.2 h.dif
  have hr : ∀ a ∈ S, RowP p N a := fun a ha => h.row a (hp.mem_iff.1 ha)
  have ht : Tri p S := by
    have h2 : S.Pairwise fun a b => a.1 ≠ b.1 := List.pairwise_map.1 hd
    refine List.Pairwise.imp_of_mem ?_ (hs.and h2)
    intro a b _ hb hab
    exact (hr b hb).2.2 a.1 (by have := hab.1; simp at this; have := hab.2; omega)
  have hx' : Sp p N (In S) x := hx.mono fun r ⟨l, hl⟩ => .row ⟨l, hp.mem_iff.2 hl⟩
  apply Classical.byContradiction
  intro hn
  have := red_lead hr h0 (fun a ha e => hn (List.mem_map.2 ⟨a, hp.mem_iff.1 ha, e⟩))
  obtain ⟨u, hu⟩ := this
  obtain ⟨v, hv⟩ := red_kill hr ht hx' i hi
  exact h1 ⟨v - u, by grind⟩
theorem nodup_le {xs ys : List Nat} (hx : xs.Nodup) (h : ∀ a ∈ xs, a ∈ ys) : xs.length ≤ ys.length := by
  induction xs generalizing ys with
  | nil => simp
  | cons a xs ih =>
    have hn := List.nodup_cons.1 hx
    have := ih hn.2 (ys := ys.erase a) fun b hb => (List.mem_erase_of_ne (by rintro rfl; exact hn.1 hb)).2 (h b (List.mem_cons_of_mem _ hb))
    rw [List.length_erase_of_mem (h a List.mem_cons_self)] at this
    have := List.length_pos_of_mem (h a List.mem_cons_self)
    simp only [List.length_cons]
    omega
theorem Bas.leads {p : Int} {N : Nat} {rs ts : List (Nat × Vec)} (hp : 1 < p) (h : Bas p N rs) (g : Bas p N ts) (hs : ∀ r, In rs r → Sp p N (In ts) r) : ∀ i ∈ rs.map Prod.fst, i ∈ ts.map Prod.fst := by
  intro i hi
  obtain ⟨a, ha, rfl⟩ := List.mem_map.1 hi
  have hr := h.row a ha
  refine g.lead (hs a.2 ⟨a.1, ha⟩) hr.1 hr.2.2 fun hd => ?_
  obtain ⟨u, hu⟩ := hd
  obtain ⟨v, hv⟩ := hr.2.1
  have h1 : p * (u - v) = 1 := by grind
  have h2 : p ∣ 1 := ⟨u - v, h1.symm⟩
  have := Int.le_of_dvd (by decide) h2
  omega
theorem Bas.count {p : Int} {N : Nat} {rs ts : List (Nat × Vec)} (hp : 1 < p) (h : Bas p N rs) (g : Bas p N ts) (h1 : ∀ r, In rs r → Sp p N (In ts) r) (h2 : ∀ r, In ts r → Sp p N (In rs) r) : rs.length = ts.length := by
  have a := nodup_le h.dif (h.leads hp g h1)
  have b := nodup_le g.dif (g.leads hp h h2)
  simp only [List.length_map] at a b
  omega
theorem red_keep {p : Int} {rs : List (Nat × Vec)} {l : Nat} (h : ∀ b ∈ rs, p ∣ b.2 l) (x : Vec) : p ∣ red rs x l - x l := by
  induction rs generalizing x with
  | nil => exact ⟨0, by simp [red]⟩
  | cons a rs ih =>
    simp only [red]
    obtain ⟨u, hu⟩ := ih (fun b hb => h b (List.mem_cons_of_mem _ hb)) (red1 a.1 a.2 x)
    obtain ⟨v, hv⟩ := h a List.mem_cons_self
    simp only [red1] at hu ⊢
    exact ⟨u - x a.1 * v, by grind⟩
theorem red_at {p : Int} {N : Nat} {rs : List (Nat × Vec)} (hr : ∀ a ∈ rs, RowP p N a) (ht : Tri p rs) {a : Nat × Vec} (ha : a ∈ rs) (x : Vec) : p ∣ red rs x a.1 := by
  induction rs generalizing x with
  | nil => exact absurd ha (by simp)
  | cons b rs ih =>
    simp only [red]
    have ht' := List.pairwise_cons.1 ht
    rcases List.mem_cons.1 ha with rfl | ha
    · obtain ⟨u, hu⟩ := red_keep ht'.1 (red1 a.1 a.2 x)
      obtain ⟨v, hv⟩ := (hr _ List.mem_cons_self).2.1
      simp only [red1] at hu ⊢
      exact ⟨u - v * x a.1, by grind⟩
    · exact ih (fun b hb => hr b (List.mem_cons_of_mem _ hb)) ht'.2 ha _
/-- A row is put to others. -/
theorem Sp.put {p : Int} {N : Nat} {rs rs' : List (Nat × Vec)} {R R' : Vec → Prop} {x y z : Vec} {l : Nat} {c d : Int} (hm : ∀ a, a ∈ rs' ↔ a = (l, z) ∨ a ∈ rs) (hR : ∀ r, R' r ↔ R r ∨ r = x) (h1 : ∀ r, In rs r → Sp p N R r) (h2 : ∀ r, R r → Sp p N (In rs) r) (hy : Sp p N (In rs) fun k => x k - y k) (hz : ∀ k, k < N → p ∣ z k - c * y k) (hy' : ∀ k, k < N → p ∣ y k - d * z k) :
    (∀ r, In rs' r → Sp p N R' r) ∧ (∀ r, R' r → Sp p N (In rs') r) := by
  have e1 : Sp p N R' fun k => x k - y k := (hy.mono h1).mono fun r hr => .row ((hR r).2 (.inl hr))
  have e2 : Sp p N R' y := ((Sp.row ((hR x).2 (.inr rfl))).lin e1 (-1)).cong fun k _ => ⟨0, by grind⟩
  have e3 : Sp p N R' z := ((Sp.zero (x := fun _ => 0) fun k _ => ⟨0, by simp⟩).lin e2 c).cong fun k hk => by
    obtain ⟨u, hu⟩ := hz k hk
    exact ⟨u, by grind⟩
  have hi : ∀ r, In rs r → Sp p N (In rs') r := fun r ⟨j, hj⟩ => .row ⟨j, (hm _).2 (.inr hj)⟩
  constructor
  · rintro r ⟨j, hj⟩
    rcases (hm _).1 hj with e | hj
    · cases e
      exact e3
    · exact (h1 r ⟨j, hj⟩).mono fun r hr => .row ((hR r).2 (.inl hr))
  · intro r hr
    rcases (hR r).1 hr with hr | rfl
    · exact (h2 r hr).mono hi
    · have hz' : Sp p N (In rs') z := .row ⟨l, (hm _).2 (.inl rfl)⟩
      exact ((hy.mono hi).lin hz' d).cong fun k hk => by
        obtain ⟨u, hu⟩ := hy' k hk
        exact ⟨u, by grind⟩
theorem Sp.skip {p : Int} {N : Nat} {rs : List (Nat × Vec)} {R R' : Vec → Prop} {x : Vec} (hR : ∀ r, R' r ↔ R r ∨ r = x) (h1 : ∀ r, In rs r → Sp p N R r) (h2 : ∀ r, R r → Sp p N (In rs) r) (hx : Sp p N (In rs) x) :
    (∀ r, In rs r → Sp p N R' r) ∧ (∀ r, R' r → Sp p N (In rs) r) :=
  ⟨fun r hr => (h1 r hr).mono fun r hr => .row ((hR r).2 (.inl hr)), fun r hr => by rcases (hR r).1 hr with hr | rfl; exact h2 r hr; exact hx⟩

end Go.Proofs.Ytjjbaebddkejnaa

/- Rows without multiples of others: what the reference's functions of rows compute (plain law over the printed functions). -/
namespace Go.Proofs.Ytjjbaebddkejnaa
open Go.RowKit Go.Proofs.Ytjjbaebddkejnaa.Pl08Inverse Go.Proofs.YtjjbaebddkejnaaW.PrintWords
set_option linter.unusedSimpArgs false

/-- With fuel enough. -/
def Ev {α : Type} (g : Nat → Option α) (r : α) : Prop := ∃ K, ∀ k, K ≤ k → g k = some r
theorem Ev.step {α : Type} {g h : Nat → Option α} {r : α} (H : Ev g r) (e : ∀ k, h (k + 1) = g k) : Ev h r := by
  obtain ⟨K, HK⟩ := H
  refine ⟨K + 1, fun k hk => ?_⟩
  obtain ⟨k', rfl⟩ : ∃ k', k = k' + 1 := ⟨k - 1, by omega⟩
  rw [e]
  exact HK k' (by omega)
theorem Ev.const {α : Type} (r : α) : Ev (fun _ => some r) r := ⟨0, fun _ _ => rfl⟩
theorem Ev.bind {α β : Type} {f : Nat → Option α} {g : Nat → α → Option β} {a : α} {b : β} (hf : Ev f a) (hg : Ev (fun k => g k a) b) : Ev (fun k => (f k).bind (g k)) b := by
  obtain ⟨K, HK⟩ := hf
  obtain ⟨L, HL⟩ := hg
  refine ⟨K + L, fun k hk => ?_⟩
  show (f k).bind (g k) = some b
  rw [HK k (by omega)]
  exact HL k (by omega)

/-- The primes. -/
def PrimeP (p : Int) : Prop := p = 5 ∨ p = 7 ∨ p = 11 ∨ p = 101 ∨ p = 10007
theorem PrimeP.bd {p : Int} (h : PrimeP p) : 5 ≤ p ∧ p ≤ 10007 := by rcases h with h | h | h | h | h <;> omega

/-- The inverse, step by step. -/
def ivN (p : Nat) : Nat → Nat → Nat → Nat → Nat
  | 0, _, out, _ => out
  | f + 1, a, out, k => bif Nat.beq k 0 then out else ivN p f (Nat.mod (Nat.mul a a) p) (bif Nat.beq (Nat.mod k 2) 1 then Nat.mod (Nat.mul out a) p else out) (Nat.div k 2)
def ivC (p : Nat) : Nat → Bool
  | 0 => true
  | a + 1 => bif Nat.beq (Nat.mod (Nat.mul (ivN p 14 (a + 1) 1 (Nat.sub p 2)) (a + 1)) p) 1 then ivC p a else false
theorem ivC_ok {p n : Nat} (h : ivC p n = true) : ∀ a, 1 ≤ a → a ≤ n → (ivN p 14 a 1 (p - 2) * a) % p = 1 := by
  induction n with
  | zero => intro a h1 h2; omega
  | succ n ih =>
    intro a h1 h2
    rw [ivC] at h
    by_cases hc : Nat.beq (Nat.mod (Nat.mul (ivN p 14 (n + 1) 1 (Nat.sub p 2)) (n + 1)) p) 1 = true
    · rw [hc] at h
      by_cases e : a = n + 1
      · subst e
        exact Nat.eq_of_beq_eq_true hc
      · exact ih h a h1 (by omega)
    · rw [Bool.not_eq_true] at hc
      rw [hc] at h
      cases h
theorem iv5 : ivC 5 4 = true := by decide +kernel
theorem iv7 : ivC 7 6 = true := by decide +kernel
theorem iv11 : ivC 11 10 = true := by decide +kernel
theorem iv101 : ivC 101 100 = true := by decide +kernel
theorem iv10007 : ivC 10007 10006 = true := by decide +kernel
def ivZ (p a : Int) : Int := (ivN p.toNat 14 a.toNat 1 (p.toNat - 2) : Nat)
theorem ivZ_ok {p a : Int} (hp : PrimeP p) (h1 : 1 ≤ a) (h2 : a < p) : p ∣ ivZ p a * a - 1 := by
  have h : ∀ q : Nat, ivC q (q - 1) = true → a < (q : Int) → 1 < q → p = (q : Int) → p ∣ ivZ p a * a - 1 := by
    intro q hq ha hq1 e
    subst e
    obtain ⟨b, rfl⟩ := Int.eq_ofNat_of_zero_le (by omega : 0 ≤ a)
    have := ivC_ok hq b (by omega) (by omega)
    simp only [ivZ, Int.toNat_natCast]
    have h1 : (((ivN q 14 b 1 (q - 2) * b : Nat) : Int)) % (q : Int) = 1 := by rw [← Int.natCast_emod, this]; rfl
    have h2 := Int.emod_add_mul_ediv ((ivN q 14 b 1 (q - 2) * b : Nat) : Int) (q : Int)
    rw [Int.natCast_mul] at h1 h2
    exact ⟨((ivN q 14 b 1 (q - 2) : Nat) : Int) * (b : Int) / (q : Int), by omega⟩
  rcases hp with e | e | e | e | e
  · exact h 5 iv5 (by omega) (by decide) e
  · exact h 7 iv7 (by omega) (by decide) e
  · exact h 11 iv11 (by omega) (by decide) e
  · exact h 101 iv101 (by omega) (by decide) e
  · exact h 10007 iv10007 (by omega) (by decide) e
theorem ivN_lt {p : Nat} (hp : 1 < p) (f a out k : Nat) (ho : out < p) : ivN p f a out k < p := by
  induction f generalizing a out k with
  | zero => exact ho
  | succ f ih =>
    rw [ivN]
    cases Nat.beq k 0 with
    | true => exact ho
    | false =>
      refine ih _ _ _ ?_
      cases Nat.beq (Nat.mod k 2) 1 with
      | true => exact Nat.mod_lt _ (by omega)
      | false => exact ho
theorem ivZ_bd {p a : Int} (hp : PrimeP p) : 0 ≤ ivZ p a ∧ ivZ p a < p := by
  have := hp.bd
  have h := ivN_lt (p := p.toNat) (by omega) 14 a.toNat 1 (p.toNat - 2) (by omega)
  simp only [ivZ]
  omega
theorem mulP_bd {p a b : Int} (hp : p ≤ 10007) (ha : 0 ≤ a ∧ a < p) (hb : 0 ≤ b ∧ b < p) : 0 ≤ a * b ∧ a * b ≤ 100140049 := by
  constructor
  · exact Int.mul_nonneg ha.1 hb.1
  · have := Int.mul_le_mul (by omega : a ≤ 10007) (by omega : b ≤ 10007) hb.1 (by decide : (0 : Int) ≤ 10007)
    omega
theorem ivN_succ (p f a out k : Nat) : ivN p (f + 1) a out k = if k = 0 then out else ivN p f (a * a % p) (if k % 2 = 1 then out * a % p else out) (k / 2) := by
  rw [ivN]
  have h1 : Nat.beq k 0 = decide (k = 0) := by cases h : Nat.beq k 0 with
    | true => simp [Nat.eq_of_beq_eq_true h]
    | false => simp [Nat.ne_of_beq_eq_false h]
  have h2 : Nat.beq (Nat.mod k 2) 1 = decide (k % 2 = 1) := by cases h : Nat.beq (Nat.mod k 2) 1 with
    | true => simp [show k % 2 = 1 from Nat.eq_of_beq_eq_true h]
    | false => simp [show ¬ k % 2 = 1 from Nat.ne_of_beq_eq_false h]
  rw [h1, h2]
  by_cases ha : k = 0
  · simp [ha]
  · by_cases hb : k % 2 = 1
    · simp [ha, hb]
      rfl
    · simp [ha, hb]
      rfl
theorem specInv_loop (p : Nat) (hp : 1 < p ∧ p ≤ 10007) (f : Nat) : ∀ a out k : Nat, a < p → out < p → k < 2 ^ f → k < 20000 → Ev (fun g => spec_l08Inverse.l0 g (a : Int) (p : Int) (out : Int) (k : Int)) (ivN p (f + 1) a out k : Int) := by
  induction f with
  | zero =>
    intro a out k ha ho hk _
    have : k = 0 := by omega
    subst this
    refine (Ev.const _).step fun g => ?_
    rw [spec_l08Inverse.l0, if_neg (by decide), ivN_succ, if_pos rfl]
  | succ f ih =>
    intro a out k ha ho hk hk2
    by_cases h0 : k = 0
    · subst h0
      refine (Ev.const _).step fun g => ?_
      rw [spec_l08Inverse.l0, if_neg (by decide), ivN_succ, if_pos rfl]
    · have hsq := mulP_bd (p := p) (a := a) (b := a) (by omega) (by omega) (by omega)
      have hso := mulP_bd (p := p) (a := out) (b := a) (by omega) (by omega) (by omega)
      rw [ivN_succ p (f + 1), if_neg h0]
      refine (ih (a * a % p) (if k % 2 = 1 then out * a % p else out) (k / 2) (Nat.mod_lt _ (by omega)) (by split; exact Nat.mod_lt _ (by omega); exact ho) (by rw [Nat.pow_succ] at hk; omega) (by omega)).step fun g => ?_
      have e1 : Int.tmod ((a : Int) * a) p = ((a * a % p : Nat) : Int) := by rw [Int.tmod_eq_emod_of_nonneg (by omega)]; push_cast; rfl
      have e2 : Int.tmod ((out : Int) * a) p = ((out * a % p : Nat) : Int) := by rw [Int.tmod_eq_emod_of_nonneg (by omega)]; push_cast; rfl
      have e3 : Int.tdiv (k : Int) 2 = ((k / 2 : Nat) : Int) := by rw [Int.tdiv_eq_ediv_of_nonneg (by omega)]; push_cast; rfl
      have e4 : Int.tmod (k : Int) 2 = ((k % 2 : Nat) : Int) := by rw [Int.tmod_eq_emod_of_nonneg (by omega)]; push_cast; rfl
      rw [spec_l08Inverse.l0, if_pos (by omega), if_neg (by omega : ¬ (p : Int) = 0), if_neg (by omega : ¬ (p : Int) = 0), IntWalk.wrap64_in ((a : Int) * a) (by omega), IntWalk.wrap64_in ((out : Int) * a) (by omega), e1, e2, e3, e4, IntWalk.wrap64_in ((k / 2 : Nat) : Int) (by omega)]
      by_cases hb : k % 2 = 1
      · rw [if_pos hb, if_pos (by omega)]
      · rw [if_neg hb, if_neg (by omega)]
theorem specInv_ev {p a : Int} (hp : PrimeP p) (h1 : 0 ≤ a) (h2 : a < p) : Ev (fun g => spec_l08Inverse.f g a p) (ivZ p a) := by
  have hb := hp.bd
  obtain ⟨b, rfl⟩ := Int.eq_ofNat_of_zero_le h1
  obtain ⟨q, rfl⟩ := Int.eq_ofNat_of_zero_le (by omega : 0 ≤ p)
  have := specInv_loop q (by omega) 14 b 1 (q - 2) (by omega) (by omega) (by show q - 2 < 16384; omega) (by omega)
  have e : ivN q 15 b 1 (q - 2) = ivN q 14 b 1 (q - 2) := by
    have h : ∀ f a out k, k < 2 ^ f → ivN q (f + 1) a out k = ivN q f a out k := by
      intro f
      induction f with
      | zero => intro a out k hk; have : k = 0 := by omega
                subst this; rw [ivN_succ, if_pos rfl]; rfl
      | succ f ih =>
        intro a out k hk
        rw [ivN_succ q (f + 1) a out k, ih _ _ _ (by rw [Nat.pow_succ] at hk; omega)]
        exact (ivN_succ q f a out k).symm
    exact h 14 b 1 (q - 2) (by show q - 2 < 16384; omega)
  simp only [ivZ, Int.toNat_natCast]
  rw [← e]
  refine (show Ev _ _ from this).imp fun K h k hk => ?_
  show spec_l08Inverse.f k _ _ = _
  rw [spec_l08Inverse.f, IntWalk.wrap64_in _ (by omega)]
  rw [show ((q : Int) - 2) = ((q - 2 : Nat) : Int) by omega]
  exact h k hk

end Go.Proofs.Ytjjbaebddkejnaa

/- Rows without multiples of others: words for what the reference's l08Left and l08Reduced compute (plain law). -/
namespace Go.Proofs.Ytjjbaebddkejnaa
open Go.RowKit Go.Proofs.Ytjjbaebddkejnaa.Pl08Inverse Go.Proofs.YtjjbaebddkejnaaW.PrintWords
set_option linter.unusedSimpArgs false

def vec (xs : List Int) : Vec := fun k => xs.getD k 0
def vr (a : Nat × List Int) : Nat × Vec := (a.1, vec a.2)
/-- A row modulo p. -/
def GoodV (p : Int) (N : Nat) (xs : List Int) : Prop := xs.length = N ∧ ∀ k, k < N → 0 ≤ vec xs k ∧ vec xs k < p
structure GoodR (p : Int) (N : Nat) (a : Nat × List Int) : Prop where
  good : GoodV p N a.2
  lt : a.1 < N
  one : vec a.2 a.1 = 1
  lead : ∀ k, k < a.1 → vec a.2 k = 0
theorem GoodR.row {p : Int} {N : Nat} {a : Nat × List Int} (h : GoodR p N a) : RowP p N (vr a) := by
  refine ⟨h.lt, ?_, fun k hk => ?_⟩
  · show p ∣ vec a.2 a.1 - 1
    rw [h.one]
    exact ⟨0, by simp⟩
  · show p ∣ vec a.2 k
    rw [h.lead k hk]
    exact ⟨0, by simp⟩
theorem vec_set (xs : List Int) (j k : Nat) (v : Int) (hj : j < xs.length) : vec (xs.set j v) k = if k = j then v else vec xs k := by
  simp only [vec, List.getD_eq_getElem?_getD, List.getElem?_set]
  by_cases h : j = k
  · subst h
    simp [hj]
  · rw [if_neg h, if_neg (by omega)]
theorem GoodV.set {p : Int} {N : Nat} {xs : List Int} (h : GoodV p N xs) (j : Nat) {v : Int} (h0 : 0 ≤ v ∧ v < p) : GoodV p N (xs.set j v) := by
  refine ⟨by rw [List.length_set]; exact h.1, fun k hk => ?_⟩
  by_cases hj : j < xs.length
  · rw [vec_set _ _ _ _ hj]
    split
    · exact h0
    · exact h.2 k hk
  · rw [List.set_eq_of_length_le (by omega)]
    exact h.2 k hk
theorem mod_bd (a : Int) {p : Int} (hp : 0 < p) : 0 ≤ a % p ∧ a % p < p := ⟨Int.emod_nonneg _ (by omega), Int.emod_lt_of_pos _ hp⟩
theorem mod_dvd (a p : Int) : p ∣ a % p - a := ⟨-(a / p), by have := Int.emod_add_mul_ediv a p; grind⟩
end Go.Proofs.Ytjjbaebddkejnaa

/- Rows without multiples of others: rows with the same sums of multiples, that begin at different places (plain law). -/
namespace Go.Proofs.Ytjjbaebddkejnaa
open Go.RowKit Go.Proofs.Ytjjbaebddkejnaa.Pl08Inverse Go.Proofs.YtjjbaebddkejnaaW.PrintWords
set_option linter.unusedSimpArgs false

/-- Rows that have the same sums of multiples as others. -/
structure Red (p : Int) (N : Nat) (rows : List (List Int)) (T : List (Nat × List Int)) : Prop where
  good : ∀ a ∈ T, GoodR p N a
  dif : (T.map Prod.fst).Nodup
  s1 : ∀ r, In (T.map vr) r → Sp p N (fun r => ∃ x ∈ rows, r = vec x) r
  s2 : ∀ r, (∃ x ∈ rows, r = vec x) → Sp p N (In (T.map vr)) r
theorem Red.rows {p : Int} {N : Nat} {rows : List (List Int)} {T : List (Nat × List Int)} (h : Red p N rows T) : ∀ a ∈ T.map vr, RowP p N a := by
  intro a ha
  obtain ⟨b, hb, rfl⟩ := List.mem_map.1 ha
  exact (h.good b hb).row
theorem map_fst_vr (T : List (Nat × List Int)) : (T.map vr).map Prod.fst = T.map Prod.fst := by
  rw [List.map_map]
  rfl
theorem Red.bas {p : Int} {N : Nat} {rows : List (List Int)} {T : List (Nat × List Int)} (h : Red p N rows T) : Bas p N (T.map vr) := ⟨h.rows, by rw [map_fst_vr]; exact h.dif⟩
theorem Red.nil {p : Int} {N : Nat} : Red p N [] [] := ⟨fun _ h => absurd h (by simp), by simp, fun _ ⟨_, h⟩ => absurd h (by simp), fun _ ⟨_, h, _⟩ => absurd h (by simp)⟩
theorem Red.count {p : Int} {N : Nat} {rows : List (List Int)} {T U : List (Nat × List Int)} (hp : 1 < p) (h : Red p N rows T) (g : Red p N rows U) : T.length = U.length := by
  have := Bas.count hp h.bas g.bas (fun r hr => (h.s1 r hr).mono g.s2) (fun r hr => (g.s1 r hr).mono h.s2)
  simpa using this
theorem Red.le {p : Int} {N : Nat} {rows : List (List Int)} {T : List (Nat × List Int)} (h : Red p N rows T) : T.length ≤ N := by
  have := nodup_le (ys := List.range N) h.dif fun a ha => by
    obtain ⟨b, hb, rfl⟩ := List.mem_map.1 ha
    exact List.mem_range.2 (h.good b hb).lt
  simpa using this
theorem mem_snoc_rows {rows : List (List Int)} {x : List Int} (r : Vec) : (∃ y ∈ rows ++ [x], r = vec y) ↔ (∃ y ∈ rows, r = vec y) ∨ r = vec x := by
  constructor
  · rintro ⟨y, hy, e⟩
    rcases List.mem_append.1 hy with hy | hy
    · exact .inl ⟨y, hy, e⟩
    · rw [List.mem_singleton.1 hy] at e
      exact .inr e
  · rintro (⟨y, hy, e⟩ | e)
    · exact ⟨y, List.mem_append.2 (.inl hy), e⟩
    · exact ⟨x, by simp, e⟩
/-- A row that is a sum of multiples of the others. -/
theorem Red.skip {p : Int} {N : Nat} {rows : List (List Int)} {T : List (Nat × List Int)} (h : Red p N rows T) {x : List Int} (hx : Sp p N (In (T.map vr)) (vec x)) : Red p N (rows ++ [x]) T := by
  have := Sp.skip (R' := fun r => ∃ y ∈ rows ++ [x], r = vec y) mem_snoc_rows h.s1 h.s2 hx
  exact ⟨h.good, h.dif, this.1, this.2⟩
/-- A row that is none. -/
theorem Red.put {p : Int} {N : Nat} {rows : List (List Int)} {T U : List (Nat × List Int)} (h : Red p N rows T) {x y z : List Int} {l : Nat} {c : Int} (hU : ∀ a, a ∈ U ↔ a = (l, z) ∨ a ∈ T) (hd : (U.map Prod.fst).Nodup) (hz : GoodR p N (l, z)) (hxy : Sp p N (In (T.map vr)) fun k => vec x k - vec y k) (hzy : ∀ k, k < N → p ∣ vec z k - c * vec y k) (hc : p ∣ c * vec y l - 1) : Red p N (rows ++ [x]) U := by
  have hm : ∀ a, a ∈ U.map vr ↔ a = (l, vec z) ∨ a ∈ T.map vr := by
    intro a
    constructor
    · intro ha
      obtain ⟨b, hb, rfl⟩ := List.mem_map.1 ha
      rcases (hU b).1 hb with rfl | hb
      · exact .inl rfl
      · exact .inr (List.mem_map.2 ⟨b, hb, rfl⟩)
    · rintro (rfl | ha)
      · exact List.mem_map.2 ⟨(l, z), (hU _).2 (.inl rfl), rfl⟩
      · obtain ⟨b, hb, rfl⟩ := List.mem_map.1 ha
        exact List.mem_map.2 ⟨b, (hU _).2 (.inr hb), rfl⟩
  have hyz : ∀ k, k < N → p ∣ vec y k - vec y l * vec z k := by
    intro k hk
    obtain ⟨u, hu⟩ := hzy k hk
    obtain ⟨v, hv⟩ := hc
    exact ⟨- (vec y k * v) - vec y l * u, by grind⟩
  have := Sp.put (R' := fun r => ∃ y ∈ rows ++ [x], r = vec y) hm mem_snoc_rows h.s1 h.s2 hxy hzy hyz
  refine ⟨fun a ha => ?_, hd, this.1, this.2⟩
  rcases (hU a).1 ha with rfl | ha
  · exact hz
  · exact h.good a ha

theorem first_nz (y : Vec) (N : Nat) : (∀ k, k < N → y k = 0) ∨ ∃ a, a < N ∧ y a ≠ 0 ∧ ∀ k, k < a → y k = 0 := by
  induction N with
  | zero => exact .inl fun k hk => by omega
  | succ N ih =>
    rcases ih with h | ⟨a, h1, h2, h3⟩
    · by_cases h0 : y N = 0
      · refine .inl fun k hk => ?_
        by_cases e : k = N
        · rw [e]; exact h0
        · exact h k (by omega)
      · exact .inr ⟨N, by omega, h0, h⟩
    · exact .inr ⟨a, by omega, h2, h3⟩
end Go.Proofs.Ytjjbaebddkejnaa
