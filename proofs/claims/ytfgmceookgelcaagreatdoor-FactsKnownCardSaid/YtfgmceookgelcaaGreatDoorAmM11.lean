/- Closed calls that the kernel has run, from an empty memory, as functions that the abstract machine takes from a table; conditions: none. -/
import Derived.Test.YtfgmceookgelcaaGreatDoorAmM04
set_option linter.unusedVariables false
set_option linter.unusedSimpArgs false
namespace Go.Proofs.YtfgmceookgelcaaGreatDoor.Am
open Go
noncomputable section
def JH(fs:List FuncId)(T:List Row):Do:=fun f xs s=>bif fs.any (Nat.beq f)then (SL T f xs).bind fun r=>some (r,s)else none
theorem KF         {P : Program} (hm : P.follows .mixedOrders = true) (hng : DO      P) {E : Cg}  (hE : E.P = P) (hnat : BL     P E.nat) {n : Nat} {fs : List FuncId} {T : List Row}
    (hT:∀r∈T,H7 r.args=true∧IZ r.res=true∧Ym r.res ((Ct E n).call r.f r.args ⟨0,.leaf⟩)=true):BL P (JH fs T):=by
  intro ρ s w f xs v s1 as' hc h hf ha
  unfold JH at hc
  cases hfs:fs.any (Nat.beq f)with
  | false=>rw[hfs]at hc;cases hc
  | true =>
    rw[hfs]at hc
    simp only[cond_true,ft]at hc
    obtain⟨u,hu,hc⟩:=hc
    injection hc with hc
    injection hc with e1 e2
    subst e1;subst e2
    obtain⟨r,hr,rfl,rfl,rfl⟩:=Jv hu
    obtain⟨p1,p2,p3⟩:=hT r hr
    cases hrun:(Ct E n).call r.f r.args ⟨0,.leaf⟩with
    | none=>rw[hrun]at p3;cases p3
    | some p =>
      obtain⟨v0,s2⟩:=p
      rw[hrun]at p3
      have hv0:r.res=v0:=D9 (show EV r.res v0=true from p3)
      subst hv0
      let ρ0:A4:=fun _=>none
      have hinv:Av P ρ0 ⟨0,.leaf⟩ w:=
        ⟨fun i o x hi hx=>(by cases hx),fun i x hx=>(by cases hx),fun i j oi oj ri rj hne hi hj hri hrj=>(by cases hri),fun i o g' hi _=>(by cases (show(AB.leaf:AB AX).get i=some o from hi))⟩
      have hfr:Ag ρ0 ⟨0,.leaf⟩:=fun i hi=>⟨rfl,rfl⟩
      have hcall:=(fT hm hng hE hnat n).call ρ0 ⟨0,.leaf⟩ w r.f r.args r.res s2 as' hrun hinv hfr (Gp p1 ha)
      refine⟨hcall.1,CallsIn.mono hcall.2 ?_⟩
      intro e w' he
      cases e with
      | panicked c=>exact he.elim
      | outgrown=>exact he.elim
      | returned v' =>
        obtain⟨ρ',k1,k2,k3⟩:=he
        have hno:∀b,¬ Dh ρ0 (⟨0,.leaf⟩:AE) b:=by
          rintro b ⟨i,o,x,hi,hw,hx,_⟩
          cases hx
        obtain⟨g1,g2⟩:=h.grown (w1:=w') ⟨k3.os,k3.tape,k3.output,k3.size,fun b hb' _=>k3.keep b hb' (hno b)⟩
        exact⟨ρ,Co p2 k1,g1,g2⟩
end
end Go.Proofs.YtfgmceookgelcaaGreatDoor.Am
