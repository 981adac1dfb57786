/- Closed calls that the kernel has run, from an empty memory, as functions that the abstract machine takes from a table; conditions: none. -/
import Derived.Test.YtoaaclpjkelofaaGreatDoorAmM05
set_option linter.all false
namespace Go.Proofs.YtoaaclpjkelofaaGreatDoor.Am
open Go
noncomputable section
def Vo(fs:List FuncId)(T:List Row):Gl:=fun f xs s=>bif fs.any (Nat.beq f)then (NJ T f xs).bind fun r=>some (r,s)else none
theorem aH{P:Program}(hm:P.follows .mixedOrders=true)(hng:Gp P){E:Dw}(hE:E.P=P)(hnat:Du P E.nat){n:Nat}{fs:List FuncId}{T:List Row}
    (hT:∀r∈T,J2 r.args=true∧JZ r.res=true∧YA r.res ((FI E n).call r.f r.args ⟨0,.leaf⟩)=true):Du P (Vo fs T):=by
  intro ρ s w f xs v s1 as' hc h hf ha
  unfold Vo at hc
  cases hfs:fs.any (Nat.beq f)with
  | false=>rw[hfs]at hc;cases hc
  | true =>
    rw[hfs]at hc
    simp only[cond_true,A8G]at hc
    obtain⟨u,hu,hc⟩:=hc
    injection hc with hc
    injection hc with e1 e2
    subst e1;subst e2
    obtain⟨r,hr,rfl,rfl,rfl⟩:=MW hu
    obtain⟨p1,p2,p3⟩:=hT r hr
    cases hrun:(FI E n).call r.f r.args ⟨0,.leaf⟩with
    | none=>rw[hrun]at p3;cases p3
    | some p =>
      obtain⟨v0,s2⟩:=p
      rw[hrun]at p3
      have hv0:r.res=v0:=HM (show IG r.res v0=true from p3)
      subst hv0
      let ρ0:DV:=fun _=>none
      have hinv:DU P ρ0 ⟨0,.leaf⟩ w:=
        ⟨fun i o x hi hx=>(by cases hx),fun i x hx=>(by cases hx),fun i j oi oj ri rj hne hi hj hri hrj=>(by cases hri),fun i o g' hi _=>(by cases (show(CT.leaf:CT Cg).get i=some o from hi))⟩
      have hfr:DB ρ0 ⟨0,.leaf⟩:=fun i hi=>⟨rfl,rfl⟩
      have hcall:=(A3r hm hng hE hnat n).call ρ0 ⟨0,.leaf⟩ w r.f r.args r.res s2 as' hrun hinv hfr (J3 p1 ha)
      refine⟨hcall.1,CallsIn.mono hcall.2 ?_⟩
      intro e w' he
      cases e with
      | panicked c=>exact he.elim
      | outgrown=>exact he.elim
      | returned v' =>
        obtain⟨ρ',k1,k2,k3⟩:=he
        have hno:∀b,¬ Hg ρ0 (⟨0,.leaf⟩:CO) b:=by
          rintro b ⟨i,o,x,hi,hw,hx,_⟩
          cases hx
        obtain⟨g1,g2⟩:=h.grown (w1:=w') ⟨k3.os,k3.tape,k3.output,k3.size,fun b hb' _=>k3.keep b hb' (hno b)⟩
        exact⟨ρ,Ek p2 k1,g1,g2⟩
end
end Go.Proofs.YtoaaclpjkelofaaGreatDoor.Am
