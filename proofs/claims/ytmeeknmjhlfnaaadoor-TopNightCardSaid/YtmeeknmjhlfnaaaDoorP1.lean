/- Which sets of streets fit a test, and how much their streets leak then; plain, no program in sight. -/
import Derived.Test.YtmeeknmjhlfnaaaDoorW9
namespace Go.Proofs.YtmeeknmjhlfnaaaDoor
def anyP (least : Int) : Pr := ⟨⟨least, 1073741824⟩, ⟨least, 1073741824⟩, ⟨0, 2147483648⟩⟩
/-- what a step says of a set: nothing if it does not fit -/
def cutO (x : Nat) (r : Stp) (p : Pr) : Option Pr :=
  if (opSt r.shut.toNat (stL x)).1 = 0 ∧ (0 < r.flow.lo ∨ r.flow.hi < 0) then none
  else if (opSt r.shut.toNat (stL x)).1 = 2 then some { p with c := cutS p.c r.flow }
  else if (opSt r.shut.toNat (stL x)).1 = 1 ∧ (opSt r.shut.toNat (stL x)).2 = 0 then some { p with a := cutS p.a r.flow }
  else if (opSt r.shut.toNat (stL x)).1 = 1 then some { p with b := cutS p.b r.flow }
  else some p
def gK (t : Tst) (x : Nat) : Nat → Option Pr
  | 0 => some (anyP t.least)
  | k + 1 => (gK t x k).bind (cutO x (t.rest k))
def narrowI (x : Nat) (p : Pr) : Pr := if sizeN x = 2 then p.narrow else p
/-- the leaks of a set that fits -/
def gR (t : Tst) (x : Nat) : Option Pr := if t.leaks < (sizeN x : Nat) then none else (gK t x t.m).bind fun p => if (narrowI x p).can then some (narrowI x p) else none
/-- a guess: a set, and its leaks -/
structure Gs where
  p : Pr
  x : Nat
def gL (t : Tst) (k : Nat) : List Gs := (List.range k).filterMap fun x => (gR t x).map fun p => ⟨p, x⟩
theorem gL_succ (t : Tst) (k : Nat) : gL t (k + 1) = match gR t k with
    | none => gL t k
    | some p => gL t k ++ [⟨p, k⟩] := by
  unfold gL
  rw [List.range_succ, List.filterMap_append]
  cases h : gR t k <;> simp [h]
theorem gL_none {t : Tst} {k : Nat} (h : gR t k = none) : gL t (k + 1) = gL t k := by rw [gL_succ, h]
theorem gL_some {t : Tst} {k : Nat} {p : Pr} (h : gR t k = some p) : gL t (k + 1) = gL t k ++ [⟨p, k⟩] := by rw [gL_succ, h]
theorem gL_length (t : Tst) (k : Nat) : (gL t k).length ≤ k := by
  have := List.length_filterMap_le (fun x => (gR t x).map fun p => (⟨p, x⟩ : Gs)) (List.range k)
  simpa [gL] using this
/-- no number is too great -/
def Spn.small (s : Spn) : Prop := -100000000000 ≤ s.lo ∧ s.lo ≤ 100000000000 ∧ -100000000000 ≤ s.hi ∧ s.hi ≤ 100000000000
theorem cutS_small {a b : Spn} (ha : a.small) (hb : b.small) : (cutS a b).small := by
  unfold Spn.small at *
  simp only [cutS]
  omega
def Pr.small (p : Pr) : Prop := p.a.small ∧ p.b.small ∧ p.c.small
theorem rest_small {t : Tst} (hk : t.Ok) {i : Nat} (hi : i < t.m) : (t.rest i).flow.small := by
  have := leftK_bd (x := (t.s i).shut.toNat) (hk.f i hi) hk.u (Nat.le_refl t.n)
  have h2 := hk.n2
  unfold Spn.small Tst.rest
  dsimp only
  omega
theorem cutO_small {x : Nat} {r : Stp} {p p' : Pr} (hp : p.small) (hr : r.flow.small) (h : cutO x r p = some p') : p'.small := by
  obtain ⟨h1, h2, h3⟩ := hp
  unfold cutO at h
  split at h
  · cases h
  · split at h
    · cases h; exact ⟨h1, h2, cutS_small h3 hr⟩
    · split at h
      · cases h; exact ⟨cutS_small h1 hr, h2, h3⟩
      · split at h
        · cases h; exact ⟨h1, cutS_small h2 hr, h3⟩
        · cases h; exact ⟨h1, h2, h3⟩
theorem gK_small {t : Tst} (hk : t.Ok) {x : Nat} : ∀ {k : Nat} {p : Pr}, k ≤ t.m → gK t x k = some p → p.small
  | 0, p, _, h => by
    have h0 := hk.e0
    have h1 := hk.e1
    cases h
    unfold Pr.small Spn.small anyP
    dsimp only
    omega
  | k + 1, p, hle, h => by
    unfold gK at h
    cases h9 : gK t x k with
    | none => rw [h9] at h; cases h
    | some q => rw [h9] at h; exact cutO_small (gK_small hk (by omega) h9) (rest_small hk (by omega)) h
end Go.Proofs.YtmeeknmjhlfnaaaDoor
