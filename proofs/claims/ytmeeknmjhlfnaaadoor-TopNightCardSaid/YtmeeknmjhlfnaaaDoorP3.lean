/- Bounds of a verdict; which sets come up; plain, no program in sight. -/
import Derived.Test.YtmeeknmjhlfnaaaDoorP2
namespace Go.Proofs.YtmeeknmjhlfnaaaDoor
theorem st_size_all : (List.range 1024).all (fun x => decide ((stL x).length = sizeN x)) = true := by kernel_rfl
theorem st_size {x : Nat} (hx : x < 1024) : (stL x).length = sizeN x := of_decide_eq_true (List.all_eq_true.1 st_size_all x (List.mem_range.2 hx))
theorem gR_size {t : Tst} {x : Nat} {p : Pr} (h : gR t x = some p) : (sizeN x : Int) ≤ t.leaks := by
  unfold gR at h
  split at h
  · cases h
  · omega
structure Vd.Bd (v : Vd) : Prop where
  c : v.can < 1024
  y : v.surely < 1024
theorem vd0_bd {n : Nat} (h : n ≤ 10) : (vd0 n).Bd := ⟨by show 0 < 1024; omega, by
  have := pow_ten h
  have := Nat.pos_of_ne_zero (show 2 ^ n ≠ 0 by simp)
  show 2 ^ n - 1 < 1024
  omega⟩
theorem Vd.Bd.add {v : Vd} (h : v.Bd) {g : Gs} (hg : g.x < 1024) : (v.add g).Bd :=
  ⟨Nat.or_lt_two_pow (n := 10) h.c hg, Nat.lt_of_le_of_lt Nat.and_le_left h.y⟩
/-- the verdict of those that have come up -/
def verdF (t : Tst) (pre : List Gs) : Vd := pre.foldl Vd.add (vd0 t.n)
theorem verdF_snoc (t : Tst) (pre : List Gs) (g : Gs) : verdF t (pre ++ [g]) = (verdF t pre).add g := by simp [verdF, List.foldl_append]
theorem verdF_bd {t : Tst} (h : t.n ≤ 10) {pre : List Gs} (hg : ∀ g ∈ pre, g.x < 1024) : (verdF t pre).Bd := by
  have key : ∀ (l : List Gs) (v : Vd), v.Bd → (∀ g ∈ l, g.x < 1024) → (l.foldl Vd.add v).Bd := fun l => by
    induction l with
    | nil => intro v h _; exact h
    | cons g l ih => intro v h hl; rw [List.foldl_cons]; exact ih _ (h.add (hl g (by simp))) fun g' h' => hl g' (by simp [h'])
  exact key pre _ (vd0_bd h) hg
theorem verdF_some (t : Tst) (pre : List Gs) : (verdF t pre).some = decide (pre ≠ []) := by
  have key : ∀ (l : List Gs) (v : Vd), (l.foldl Vd.add v).some = (v.some || decide (l ≠ [])) := fun l => by
    induction l with
    | nil => intro v; simp
    | cons g l ih => intro v; rw [List.foldl_cons, ih]; simp [Vd.add]
  unfold verdF
  rw [key]; simp [vd0]
end Go.Proofs.YtmeeknmjhlfnaaaDoor
