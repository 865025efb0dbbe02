/- What all the sets that fit say of the streets; plain, no program in sight. -/
import Derived.Test.YtmeeknmjhlfnaaaDoorP1
namespace Go.Proofs.YtmeeknmjhlfnaaaDoor
/-- what all sets say -/
structure Vd where
  some : Bool
  sound : Bool
  can : Nat
  surely : Nat
  leaks : Nat → Spn
/-- the leak of a street, once a set's p-th street is taken in -/
def leak1 (g : Gs) (c : Nat) (l : Nat → Spn) (p s : Nat) : Nat → Spn := fun j =>
  if j = s then
    if hasB c s then ⟨min (if p = 0 then g.p.a else g.p.b).lo (l s).lo, max (if p = 0 then g.p.a else g.p.b).hi (l s).hi⟩ else if p = 0 then g.p.a else g.p.b
  else l j
/-- the leaks once the streets of this list are taken in, the first of them at place 0 -/
def leaksK (g : Gs) (c : Nat) (l : Nat → Spn) (xs : List Nat) : Nat × (Nat → Spn) := xs.foldl (fun a s => (a.1 + 1, leak1 g c a.2 a.1 s)) (0, l)
theorem leaksK_fst (g : Gs) (c : Nat) (l : Nat → Spn) (xs : List Nat) : (leaksK g c l xs).1 = xs.length := by
  have key : ∀ (xs : List Nat) (a : Nat × (Nat → Spn)), (xs.foldl (fun a s => (a.1 + 1, leak1 g c a.2 a.1 s)) a).1 = a.1 + xs.length := fun xs => by
    induction xs with
    | nil => intro a; rfl
    | cons s xs ih => intro a; rw [List.foldl_cons, ih]; simp; omega
  unfold leaksK
  rw [key]; simp
theorem leaksK_snoc (g : Gs) (c : Nat) (l : Nat → Spn) (xs : List Nat) (s : Nat) : (leaksK g c l (xs ++ [s])).2 = leak1 g c (leaksK g c l xs).2 xs.length s := by
  have h := leaksK_fst g c l xs
  unfold leaksK at *
  rw [List.foldl_append, List.foldl_cons, List.foldl_nil, h]
def Vd.add (v : Vd) (g : Gs) : Vd := ⟨true, v.sound || decide (g.x = 0), v.can ||| g.x, v.surely &&& g.x, (leaksK g v.can v.leaks (stL g.x)).2⟩
def vd0 (n : Nat) : Vd := ⟨false, false, 0, 2 ^ n - 1, fun _ => ⟨0, 0⟩⟩
/-- the verdict of a test -/
def verd (t : Tst) : Vd := (gL t (2 ^ t.n)).foldl Vd.add (vd0 t.n)
end Go.Proofs.YtmeeknmjhlfnaaaDoor
