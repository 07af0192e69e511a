/- Loops that keep all that is owned. No program in sight. -/
import Derived.Test.YteiboodeepjanaaGreatFwH
namespace Go.Proofs.YteiboodeepjanaaGreat
open Go.RowKit

theorem Sub.all : ∀ (L : List Res), Sub L L
  | [] => .nil
  | r :: L => .cons .here (Sub.all L)

section
variable {P : Program} {ops : Array Oper} {Q : Exit → Act → World → Prop} {N : Nat} {w0 : World} {L L' : List Res} {rest : List Oper} {e : Env} {o : Oper} {t : TypeId} {x y ix : Operand} {a : Addr} {v z : Value} {n : Nat}

/-- A loop whose rounds keep all that is owned as it is. -/
theorem gc_loopK {σ : Type} {c : Code} (wr : List Nat) (S : σ → List (Nat × Value)) (I : σ → Prop) (μ : σ → Nat) (s0 : σ) (hI : I s0) (hA : Ats (S s0) e)
    (round : ∀ s base, I s → GC P (Exit.then (Rnd N w0 wr e S (fun _ => L) I μ (μ s)) Q) N w0 L c (sets (S s) (havoc wr e base))) : GC P Q N w0 L (.loop c) e :=
  gc_loop wr S (fun _ => L) I μ s0 hI hA (Sub.all L) round
end
end Go.Proofs.YteiboodeepjanaaGreat
