/- An iterator of which it is known what comes up. -/
import Derived.Test.YtlofopnjjeeehaaDoorRange2
namespace Go.Proofs.YtlofopnjjeeehaaDoor
open Go.RowKit
/-- as SeqC, for an iterator of which it is known what comes up -/
def SeqP {α : Type} (F : Fence) (n : Nat) (P : Program) (g : Nat) (lb : Array Value) (encs : α → Array Value) (Pr : Nat → Prop) (S Sp : List α → Prop) (N : Nat) (w0 : World) (p : α → Prop) : Prop :=
  ∀ (l : Nat) (J Jx : List α → World → Prop) (W : World), Same Pr w0 W → StableB J → StableB Jx →
    (∀ pre x W1, p x → J pre W1 → pre.length < N → YieldAt F (n - 1) P l (encs x) W1 fun e W' =>
      (e = .returned (.bool true) ∧ J (pre ++ [x]) W' ∧ Same Pr W1 W') ∨ (e = .returned (.bool false) ∧ Jx (pre ++ [x]) W')) →
    J [] W →
    CallsIn F n P g (#[.func (.yield l) #[] #[]] ++ lb) W fun e W' => (∃ v, e = .returned v) ∧ ((∃ xs, S xs ∧ J xs W') ∨ (∃ pre, Sp pre ∧ Jx pre W'))
theorem SeqP.sub {α : Type} {F : Fence} {n : Nat} {P : Program} {g : Nat} {lb : Array Value} {encs : α → Array Value} {Pr : Nat → Prop} {S Sp : List α → Prop} {N : Nat} {w0 : World} {p : α → Prop} (h : SeqP F n P g lb encs Pr S Sp N w0 p) :
    SeqC F n P g lb (fun x : {x // p x} => encs x.val) Pr (fun xs => S (xs.map (fun z : {x // p x} => z.val))) (fun xs => Sp (xs.map (fun z : {x // p x} => z.val))) N w0 := by
  intro l J Jx W hW hJ hJx hY h0
  refine (h l (fun pre W => ∃ q : List {x // p x}, q.map (fun z : {x // p x} => z.val) = pre ∧ J q W) (fun pre W => ∃ q : List {x // p x}, q.map (fun z : {x // p x} => z.val) = pre ∧ Jx q W) W hW (by rintro s A B ⟨q, hq, hj⟩ hb; exact ⟨q, hq, hJ q A B hj hb⟩) (by rintro s A B ⟨q, hq, hj⟩ hb; exact ⟨q, hq, hJx q A B hj hb⟩) ?_ ⟨[], rfl, h0⟩).mono ?_
  · rintro pre x W1 hp ⟨q, rfl, hj⟩ hlen
    obtain ⟨fn, tmps, assign, body, hy, hRd⟩ := hY q ⟨x, hp⟩ W1 hj (by simpa using hlen)
    refine ⟨fn, tmps, assign, body, hy, hRd.mono ?_⟩
    rintro e W' (⟨he, h1, h2⟩ | ⟨he, h1⟩)
    · exact .inl ⟨he, ⟨_, by simp, h1⟩, h2⟩
    · exact .inr ⟨he, ⟨_, by simp, h1⟩⟩
  · rintro e W' ⟨hv, ⟨xs, hS, q, rfl, hj⟩ | ⟨xs, hS, q, rfl, hj⟩⟩
    · exact ⟨hv, .inl ⟨q, hS, hj⟩⟩
    · exact ⟨hv, .inr ⟨q, hS, hj⟩⟩
end Go.Proofs.YtlofopnjjeeehaaDoor
