/- Has, Eq, Tag: what they make; walked; conditions: none. -/
import Derived.Test.YtoaaclpjkelofaaGreatDoorAmM08
import Derived.Test.YtoaaclpjkelofaaGreatDoorAmM05
import Derived.Test.YtoaaclpjkelofaaGreatDoorAmM06
import Derived.Test.YtoaaclpjkelofaaGreatDoorAmM04
set_option linter.all false
set_option maxHeartbeats 1000000
namespace Go.Proofs.YtoaaclpjkelofaaGreatDoor.Am
open Go Go.Proofs
noncomputable section
open Tryz
def Tm.tag:Tm→Int
 | .con n=>match (Jw.getD n ([],nullC)).2 with
  | .int _ x::_=>x
  | _=>0
 | _=>0
theorem sC:∀n,n<13→(Tm.con n).cells[0]? = some (iv (Tm.con n).tag):=by
 intro n h
 have:n=0∨n=1∨n=2∨n=3∨n=4∨n=5∨n=6∨n=7∨n=8∨n=9∨n=10∨n=11∨n=12:=by omega
 rcases this with rfl | rfl | rfl | rfl | rfl | rfl | rfl | rfl | rfl | rfl | rfl | rfl | rfl<;>rfl
theorem Yk{t:Tm}(h:t.ok)(hk:t.kind=2):t.cells[0]? = some (iv t.tag):=by
 cases t with
 | con n=>exact sC n h
 | _=>simp[Tm.kind]at hk
def ng:List Nat:=[104,97,115]
def FC (S:List Tm) (d k:Tm):Fm:=if d.kind=2∨k.kind=2∧k.tag≠3 then ER false else Fi S 8 0 ng [d,k]
theorem XQ{S:List Tm}{d k:Tm}(h:d.kind=2∨k.kind=2∧k.tag≠3):FC S d k=ER false:=if_pos h
theorem RS{S:List Tm}{d k:Tm}(h:¬ (d.kind=2∨k.kind=2∧k.tag≠3)):FC S d k=Fi S 8 0 ng [d,k]:=if_neg h
section
variable{E:Dw}(hE:Cn E){s:CO}{p:Nat}{L:LG}{O:List Nat}(hL:DG s p L O)(hsm:L.F.length<1000000)(hSm:L.S.length<99990)(hg:Fp s O){K:AV→CO→Prop}
include hE hL hsm hSm hg
omit hE hL hsm hSm hg in
theorem GN{f:Fm}{s1:CO}(ho:DL s.next s s1)(hK:∀s' O',DG s' p ⟨L.S,DN L.F f,L.A,L.q⟩ O'→Eb O s s'→DR O O' s→K (iv (IH (DN L.F f) f.key:Int)) s'):
  ∀s' O',DG s' p ⟨L.S,DN L.F f,L.A,L.q⟩ O'→Eb O s1 s'→DR O O' s1→K (iv (IH (DN L.F f) f.key:Int)) s':=
 fun s' O' g1 g2 g3=>hK s' O' g1 ((ho.frO O).trans g2 (DR.refl O s)) (fun j hj=>(g3 j hj).imp id (fun h=>by have:=ho.1;omega))
set_option maxRecDepth 20000 in
theorem A3H{d k:Tm}(hd:d∈L.S)(hk:k∈L.S)(hK:∀s' O',DG s' p ⟨L.S,DN L.F (FC L.S d k),L.A,L.q⟩ O'→Eb O s s'→DR O O' s→K (iv (IH (DN L.F (FC L.S d k)) (FC L.S d k).key:Int)) s'):
    WF E 19 [.ptr (some (p,0)),iv (ix L.S d:Int),iv (ix L.S k:Int)] K s:=by
  obtain⟨q,fv,mf,av,mk,X,OS,OB,OA,e⟩:=hL.ex
  have hobj:=e.obj
  refine hE.go A1a (by decide) rfl ?_
  simp only[A6x,vU,vV,vW,Gy,Qa,Qb,QS]
  refine Je hE hL hSm hd ?_
  simp only[QS]
  refine Je hE hL hSm hk ?_
  simp only[vX,Ho,OJ,hobj,Qb,QS,Wg]
  refine La hE e.terms hd fun s1 ho=>?_
  have hobj1:s1.heap.get p=some (R 49 0 false [.ptr (some (q,0)),fv,.map (some mf),av,.map (some mk)]):=by rw[ho.2 p e.plt];exact hobj
  have hL1:=hL.old ho
  by_cases h1:d.kind=2
  · have hM:FC L.S d k=ER false:=XQ (.inl h1)
    rw[hM]at hK
    simp only[h1,A9Z,km,Qb,QS]
    refine HA hE hL1 hsm (by omega) fun s' O' g1 g2 g3=>?_
    simp only[QS]
    exact GN ho hK s' O' g1 g2 g3
  · simp only[h1,A9a,Ho,OJ,hobj1,QS,Wg]
    refine La hE (e.old ho).terms hk fun s2 ho2=>?_
    have ho3:DL s.next s s2:=ho.trans (ho2.mono ho.1)
    have hobj2:s2.heap.get p=some (R 49 0 false [.ptr (some (q,0)),fv,.map (some mf),av,.map (some mk)]):=by rw[ho3.2 p e.plt];exact hobj
    have hat:∀ (s3:CO),DL s.next s s3→FC L.S d k=Fi L.S 8 0 ng [d,k]→∀ (a3 a4 a5:AV),
        Qb E ko (fun v s'=>K (Hw v 3) s') [] [.ptr (some (p,0)),iv (ix L.S d:Int),iv (ix L.S k:Int),a3,a4,a5] s3:=fun s3 h3 hM a3 a4 a5=>by
      rw[hM]at hK
      generalize hs:s3.next=b
      have hs0:s3=ext s3 []:=(Ca s3).symm
      have ho4:DL s.next s (ext s3 [R 3 1 false (Dv [(ix L.S d:Int),(ix L.S k:Int)])]):=h3.trans ((Ci (s:=s3)).mono h3.1)
      have hatom:=fun(K1:AV→CO→Prop)=>Od (K:=K1) hE (hL.old ho4) hsm hSm (hg.old ho4) (name:=ng) (by decide) (ts:=[d,k]) (fun t ht=>by simp at ht;rcases ht with rfl | rfl;exact hd;exact hk) (by simp) (pv:=.slice (some (nid b 0,0)) 2 (some 2)) (.inr ⟨nid b 0,0,some 2,rfl,by rw[Ce,hs,CN,CN];simp,by rw[CR hs (by simp)];exact D3 (A8H _)⟩) (kind:=8) (num:=0) (by omega) (by unfold i64;omega) (fun h=>by omega)
      rw[hs0]
      simp only[ko,EO,hs,Qb,QS,Wg]
      refine hatom _ fun s' O' g1 g2 g3=>?_
      simp only[QS]
      exact GN ho4 hK s' O' g1 g2 g3
    by_cases h2:k.kind=2
    · simp only[h2,A9Z,Ho,OJ,hobj2,QS,Wg]
      have hkS:=(e.old ho3).terms
      refine Ys hE hkS hk fun s3 ho4=>?_
      have ho5:DL s.next s s3:=ho3.trans (ho4.mono ho3.1)
      have htag:=Yk (e.terms.ok.ok k hk) h2
      simp only[nT,htag,QS]
      by_cases h3:k.tag=3
      · simp only[h3,ne_eq,not_true,A9a,QS]
        exact hat s3 ho5 (RS (by simp[h1,h3])) _ _ _
      · have hM:FC L.S d k=ER false:=XQ (.inr ⟨h2,h3⟩)
        rw[hM]at hK
        simp only[ne_eq,h3,not_false_eq_true,A9Z,km,Qb,QS]
        refine HA hE (hL.old ho5) hsm (by omega) fun s' O' g1 g2 g3=>?_
        simp only[QS]
        exact GN ho5 hK s' O' g1 g2 g3
    · simp only[h2,A9a,QS]
      exact hat s2 ho3 (RS (by simp[h1,h2])) _ _ _
end
def FH (S:List Tm) (t u:Tm):Fm:=if t=u then ER true else if t.kind=2∧u.kind=2 then ER false else if QM S u t<0 then Fi S 6 0 [61] [u,t]else Fi S 6 0 [61] [t,u]
def GE:List (List Nat):=[[110,117,108,108,63],[98,111,111,108,63],[105,110,116,63],[115,116,114,63],[100,105,99,116,63],[102,117,110,63]]
def Eh (S:List Tm) (n:Nat) (t:Tm):Fm:=if t.kind=2 then ER (decide (t.tag=n))else Fi S 7 n (GE.getD n []) [t]
section
variable{E:Dw}(hE:Cn E){s:CO}{p:Nat}{L:LG}{O:List Nat}(hL:DG s p L O)(hsm:L.F.length<1000000)(hSm:L.S.length<99990)(hg:Fp s O){K:AV→CO→Prop}
include hE hL hsm hSm hg
set_option maxRecDepth 20000 in
theorem A0g{t u:Tm}(ht:t∈L.S)(hu:u∈L.S)(hK:∀s' O',DG s' p ⟨L.S,DN L.F (FH L.S t u),L.A,L.q⟩ O'→Eb O s s'→DR O O' s→K (iv (IH (DN L.F (FH L.S t u)) (FH L.S t u).key:Int)) s'):
    WF E 12 [.ptr (some (p,0)),iv (ix L.S t:Int),iv (ix L.S u:Int)] K s:=by
  obtain⟨q,fv,mf,av,mk,X,OS,OB,OA,e⟩:=hL.ex
  have hobj:=e.obj
  refine hE.go A1T (by decide) rfl ?_
  simp only[A4Z,uj,uk,ul,Gy,Qa,Qb,QS]
  refine Je hE hL hSm ht ?_
  simp only[QS]
  refine Je hE hL hSm hu ?_
  simp only[um,Ho,OJ,hobj,Qb,QS,Wg]
  refine La hE e.terms ht fun s1 ho=>?_
  have hobj1:s1.heap.get p=some (R 49 0 false [.ptr (some (q,0)),fv,.map (some mf),av,.map (some mk)]):=by rw[ho.2 p e.plt];exact hobj
  have hix:decide ((ix L.S t:Int)=(ix L.S u:Int))=decide (t=u):=by
    rw[A9e,decide_eq_true_eq,decide_eq_true_eq]
    exact⟨fun h=>Gu ht hu (by omega),fun h=>by rw[h]⟩
  have hat:∀ (s3:CO),DL s.next s s3→∀ (x y:Tm),x∈L.S→y∈L.S→FH L.S t u=Fi L.S 6 0 [61] [x,y]→∀ (a3 a4 a5 a6 a7 a8:AV),
      Qb E QU (fun v s'=>K (Hw v 3) s') [] [.ptr (some (p,0)),iv (ix L.S x:Int),iv (ix L.S y:Int),a3,a4,a5,a6,a7,a8] s3:=fun s3 h3 x y hx hy hM a3 a4 a5 a6 a7 a8=>by
    rw[hM]at hK
    generalize hs:s3.next=b
    have hs0:s3=ext s3 []:=(Ca s3).symm
    have ho4:DL s.next s (ext s3 [R 3 1 false (Dv [(ix L.S x:Int),(ix L.S y:Int)])]):=h3.trans ((Ci (s:=s3)).mono h3.1)
    have hatom:=fun(K1:AV→CO→Prop)=>Od (K:=K1) hE (hL.old ho4) hsm hSm (hg.old ho4) (name:=[61]) (by decide) (ts:=[x,y]) (fun t ht=>by simp at ht;rcases ht with rfl | rfl;exact hx;exact hy) (by simp) (pv:=.slice (some (nid b 0,0)) 2 (some 2)) (.inr ⟨nid b 0,0,some 2,rfl,by rw[Ce,hs,CN,CN];simp,by rw[CR hs (by simp)];exact D3 (A8H _)⟩) (kind:=6) (num:=0) (by omega) (by unfold i64;omega) (fun h=>by omega)
    rw[hs0]
    simp only[QU,EO,hs,Qb,QS,Wg]
    refine hatom _ fun s' O' g1 g2 g3=>?_
    simp only[QS]
    exact GN ho4 hK s' O' g1 g2 g3
  have hmain:∀ (s2:CO) (a5:AV),DL s.next s s2→∀ (bo:Bool),(bo=true↔t.kind=2∧u.kind=2) →
      Qb E kO (fun v s'=>KU (Hw v 6) (fun x x_1 x_2=>Qb E kP (fun v s'=>Jj (EL s' x_1) fun s'=>K (Hw v 3) s') [] x x_2)
        (fun x x_1 x_2=>Qb E kQ (fun v s'=>KU (Hw v 7) (fun x x_3 x_4=>Qb E kR (fun v s'=>Jj (EL s' x_3) fun s'=>K (Hw v 3) s') [] x x_4)
          (fun x x_3 x_4=>Qb E kT (fun v s'=>KU (Hw v 8) (fun x x_5 x_6=>Qb E ZE (fun v s'=>Qb E QU (fun v s'=>Jj (EL s' x_5) fun s'=>K (Hw v 3) s') [] v s') [] x x_6)
            (fun x x_5 x_6=>Qb E QU (fun v s'=>Jj (EL s' x_5) fun s'=>K (Hw v 3) s') [] x x_6) v x_3 s') [] x x_4) v x_1 s') [] x x_2) v [] s') []
        [.ptr (some (p,0)),iv (ix L.S t:Int),iv (ix L.S u:Int),.int .i64 0,.bool bo,a5,Cx,Cx,Cx] s2:=fun s2 a5 ho2 bo hbo=>by
    simp only[kO,hix,Qb,QS]
    by_cases h1:t=u
    · have hM:FH L.S t u=ER true:=if_pos h1
      rw[hM]at hK
      simp only[h1,A9Z,kP,Qb,QS]
      refine HA hE (hL.old ho2) hsm (by omega) fun s' O' g1 g2 g3=>?_
      simp only[QS]
      exact GN ho2 hK s' O' g1 g2 g3
    · simp only[h1,A9a,kQ,Qb,QS]
      cases bo with
      | true =>
        have hM:FH L.S t u=ER false:=by unfold FH;rw[if_neg h1,if_pos (hbo.1 rfl)]
        rw[hM]at hK
        simp only[kR,Qb,QS]
        refine HA hE (hL.old ho2) hsm (by omega) fun s' O' g1 g2 g3=>?_
        simp only[QS]
        exact GN ho2 hK s' O' g1 g2 g3
      | false =>
        have hn:¬ (t.kind=2∧u.kind=2):=fun h=>by have:=hbo.2 h;cases this
        simp only[kT,Qb,QS]
        refine ib hE (hL.old ho2) (hg.old ho2) hu ht fun s3 h3=>?_
        have ho5:DL s.next s s3:=ho2.trans (h3.mono ho2.1)
        simp only[QS]
        by_cases h4:QM L.S u t<0
        · simp only[h4,A9Z,ZE,Qb,QS]
          exact hat s3 ho5 u t hu ht (by unfold FH;rw[if_neg h1,if_neg hn,if_pos h4]) _ _ _ _ _ _
        · simp only[h4,A9a,QS]
          exact hat s3 ho5 t u ht hu (by unfold FH;rw[if_neg h1,if_neg hn,if_neg h4]) _ _ _ _ _ _
  by_cases h1:t.kind=2
  · simp only[h1,A9Z,Ho,OJ,hobj1,QS,Wg]
    refine La hE (e.old ho).terms hu fun s2 ho2=>?_
    have ho3:DL s.next s s2:=ho.trans (ho2.mono ho.1)
    simp only[QS]
    have:=hmain s2 (.bool false) ho3 (decide (u.kind=2)) (by simp[h1])
    exact this
  · simp only[h1,A9a,QS]
    have:=hmain s1 (.bool false) ho false (by simp[h1])
    exact this
end
theorem uT:FV prog 90=some (.agg [.str [],.str [],.str [],.str [],.str [],.str []]):=by kernel_rfl
theorem uB:DZ prog 90=some 6:=by kernel_rfl
theorem rA(a b c d e f:List Nat):C8 prog 90 (zipIdx [0,1,2,3,4,5] [.str a,.str b,.str c,.str d,.str e,.str f])=some (.agg [.str a,.str b,.str c,.str d,.str e,.str f]):=by kernel_rfl
theorem six{n:Nat}(h:n<6):n=0∨n=1∨n=2∨n=3∨n=4∨n=5:=by omega
theorem nq{n:Nat}(h:n<6)(i o:Nat):CQ prog 90 (.ptr (some (i,o))) (iv (n:Int))=some (.ptr (some (i,o+n * 1))):=by
 rcases six h with rfl | rfl | rfl | rfl | rfl | rfl<;>kernel_rfl
section
variable{E:Dw}(hE:Cn E){s:CO}{p:Nat}{L:LG}{O:List Nat}(hL:DG s p L O)(hsm:L.F.length<1000000)(hSm:L.S.length<99990)(hg:Fp s O){K:AV→CO→Prop}
include hE hL hsm hSm hg
set_option maxRecDepth 20000 in
theorem A3d{n:Nat}(hn:n<6){t:Tm}(ht:t∈L.S)(hK:∀s' O',DG s' p ⟨L.S,DN L.F (Eh L.S n t),L.A,L.q⟩ O'→Eb O s s'→DR O O' s→K (iv (IH (DN L.F (Eh L.S n t)) (Eh L.S n t).key:Int)) s'):
  WF E 16 [.ptr (some (p,0)),iv (n:Int),iv (ix L.S t:Int)] K s:=by
 obtain⟨q,fv,mf,av,mk,X,OS,OB,OA,e⟩:=hL.ex
 have hobj:=e.obj
 refine hE.go A1X (by decide) rfl ?_
 generalize hs:s.next=b
 have hs0:s=ext s []:=(Ca s).symm
 have d0:decide ((n:Int)<0)=false:=by simp
 have d1:decide ((6:Int)≤(n:Int))=false:=by simp;omega
 have ho:DL s.next s (ext s [R 90 0 false (GE.map AV.str)]):=Ci
 generalize hse:ext s [R 90 0 false (GE.map AV.str)]=se at ho
 have g0:se.heap.get (nid b 0)=some (R 90 0 false (GE.map AV.str)):=by rw[← hse,CR hs (by simp)];rfl
 have hbn:nid b 0<se.next:=by rw[← hse,Ce,hs,CN,CN];simp
 have hse':ext s [R 90 0 false [.str [110,117,108,108,63],.str [98,111,111,108,63],.str [105,110,116,63],.str [115,116,114,63],.str [100,105,99,116,63],.str [102,117,110,63]]]=se:=hse
 rw[hs0]
 simp only[A6u,vE,vF,vG,vH,vI,Gy,rA,uT,uB,d0,d1,hs,hse',Qa,Qb,QS,Wg,Nat.reduceAdd]
 refine Je hE (hL.old ho) hSm ht ?_
 have e1:=e.old ho
 have hobj1:=e1.obj
 simp only[vJ,Ho,OJ,hobj1,Qb,QS,Wg]
 refine La hE e1.terms ht fun s1 ho1=>?_
 have ho2:DL s.next s s1:=ho.trans (ho1.mono ho.1)
 have e2:=e.old ho2
 have hobj2:=e2.obj
 by_cases h1:t.kind=2
 ·have hM:Eh L.S n t=ER (decide (t.tag=n)):=if_pos h1
  rw[hM]at hK
  simp only[h1,A9Z,vK,Ho,OJ,hobj2,Qb,QS,Wg]
  refine Ys hE e2.terms ht fun s2 ho3=>?_
  have ho4:DL s.next s s2:=ho2.trans (ho3.mono ho2.1)
  have htag:=Yk (e.terms.ok.ok t ht) h1
  simp only[nT,htag,QS]
  refine HA hE (hL.old ho4) hsm (by omega) fun s' O' g1 g2 g3=>?_
  simp only[QS]
  exact GN ho4 hK s' O' g1 g2 g3
 ·have hM:Eh L.S n t=Fi L.S 7 n (GE.getD n []) [t]:=if_neg h1
  rw[hM]at hK
  simp only[h1,A9a,QS]
  have g1:s1.heap.get (nid b 0)=some (R 90 0 false (GE.map AV.str)):=by rw[ho1.2 _ hbn];exact g0
  have hld:DY (s1.heap.get (nid b 0)) (0+n * 1)=some (.str (GE.getD n [])):=by
   rw[g1]
   rcases six hn with rfl | rfl | rfl | rfl | rfl | rfl<;>rfl
  have hnl:(GE.getD n []).length≤100:=by rcases six hn with rfl | rfl | rfl | rfl | rfl | rfl<;>decide
  generalize hs1:s1.next=b1
  have hs2:s1=ext s1 []:=(Ca s1).symm
  have ho4:DL s.next s (ext s1 [R 3 1 false (Dv [(ix L.S t:Int)])]):=ho2.trans ((Ci (s:=s1)).mono ho2.1)
  have hatom:=fun(K1:AV→CO→Prop)=>Od (K:=K1) hE (hL.old ho4) hsm hSm (hg.old ho4) (name:=GE.getD n []) hnl (ts:=[t]) (fun u hu=>by simp at hu;rw[hu];exact ht) (by simp) (pv:=.slice (some (nid b1 0,0)) 1 (some 1)) (.inr ⟨nid b1 0,0,some 1,rfl,by rw[Ce,hs1,CN,CN];simp,by rw[CR hs1 (by simp)];exact D3 (A8H _)⟩) (kind:=7) (num:=n) (by omega) (by unfold i64;omega) (fun h=>by omega)
  have hld2:DY ((ext s1 []).heap.get (nid b 0)) (n * 1)=some (.str (GE.getD n [])):=by rw[Ca];rw[A8V]at hld;exact hld
  rw[hs2]
  simp only[vL,nq hn,qZ,hld2,Fo,hs1,Qb,QS,Wg]
  refine hatom _ fun s' O' g1 g2 g3=>?_
  simp only[QS]
  exact GN ho4 hK s' O' g1 g2 g3
end
end
end Go.Proofs.YtoaaclpjkelofaaGreatDoor.Am
set_option linter.all false
namespace Go.Proofs.YtoaaclpjkelofaaGreatDoor.Am
open Go Go.Proofs
noncomputable section
open Tryz
theorem Cn.n{E:Dw}(hE:Cn E):TG E:=⟨hE.P,hE.nat⟩
def Mf (l:List Int):List Nat:=Gx Gt l
theorem Z2(i:Int):∀b∈Gt i,b<256:=fun b hb=>by
 unfold Gt at hb
 obtain⟨x,_,rfl⟩:=List.mem_map.1 hb
 exact x.toNat_lt
theorem Xw{l:List Int}(h:∀x∈l,i64 x):(Mf l).length≤22 * l.length:=by
 have:=Lh Gt (B:=21) (l:=l) fun n hn=>Jc (h n hn)
 unfold Mf
 omega
theorem Ty{E:Dw}(hE:Cn E){s:CO}{v:AV}{l:List Int}(hv:Cl s v l)(hl:l.length≤1000000)(h0:0<l.length)(hi:∀x∈l,i64 x){O:List Nat}(hg:Fp s O){K:AV→CO→Prop}(hK:∀s',DL s.next s s'→K (.str (Mf l)) s'):WF E 42 [v] K s:=
 SI hE.n hv hl Gt (fun n hn s' K' ho hk=>Oa hE (hg.old ho).1 (hi n hn) hk) (fun n hn=>by have:=Jc (hi n hn);omega) (fun n _=>Z2 n) h0 hK
inductive Mk where
 | put (f:Fm)
 | old (n:Int)
def Mk.fs (F:List Fm):Mk→List Fm
 | .put f=>DN F f
 | .old _=>F
def Mk.num (F:List Fm):Mk→Int
 | .put f=>(IH (DN F f) f.key:Int)
 | .old n=>n
def Sx (F:List Fm) (x:Int):Fm:=⟨4,0,0,0,Mf [x],[x],none,1+(CP F x).size,[40,110,111,116,32]++(CP F x).text++[41]⟩
def Gi (F:List Fm) (x:Int):Mk:=
 if (CP F x).kind=0∨(CP F x).kind=1 then .put (ER (decide ((CP F x).kind=1)))else if (CP F x).kind=4 then .old ((CP F x).kids.headD 0)else .put (Sx F x)
theorem LI{F:List Fm}{x:Int}(h:(CP F x).kind=0∨(CP F x).kind=1):Gi F x=.put (ER (decide ((CP F x).kind=1))):=if_pos h
theorem gI{F:List Fm}{x:Int}(h:(CP F x).kind=4):Gi F x=.old ((CP F x).kids.headD 0):=by
 unfold Gi;rw[if_neg (by omega),if_pos h]
theorem UI{F:List Fm}{x:Int}(h0:(CP F x).kind≠0)(h1:(CP F x).kind≠1)(h4:(CP F x).kind≠4):Gi F x=.put (Sx F x):=by
 unfold Gi;rw[if_neg (by omega),if_neg h4]
theorem Wn(a:Option (Nat×Nat))(n:Nat)(c:Option Nat):C8 prog 86 (zipIdx [1] [.slice a n c])=some (.agg ([iv 0,iv 0,iv 0,iv 0,.str []]++(.slice a n c::KE)++[iv 0,.str []])):=by kernel_rfl
theorem TK(a:Int)(l:List Nat):C8 prog 76 (zipIdx [0,3] [iv a,.str l])=some (.agg [iv a,iv 0,iv 0,iv 0,.str l]):=by kernel_rfl
end
end Go.Proofs.YtoaaclpjkelofaaGreatDoor.Am
set_option linter.all false
set_option maxHeartbeats 1000000
namespace Go.Proofs.YtoaaclpjkelofaaGreatDoor.Am
open Go Go.Proofs
noncomputable section
open Tryz
theorem dJ(n:Int):IG (.int .i64 n) (.int .i64 n)=true:=by simp[IG,He,NG]
section
variable{E:Dw}(hE:Cn E){s:CO}{p:Nat}{L:LG}{O:List Nat}(hL:DG s p L O){K:AV→CO→Prop}
include hE hL
theorem LY{x:Int}(h0:0<L.F.length):∃ (q:Nat)(mf:Nat)(av:AV)(mk j i:Nat)(r:FP)(y:List AV×List Nat)(OS:List Nat),s.heap.get p=some (R 49 0 false [.ptr (some (q,0)),.slice (some (j,0)) L.F.length none,.map (some mf),av,.map (some mk)])∧p<s.next∧j<s.next∧i<L.F.length∧(i:Int)=N8 L.F.length x∧s.heap.get j=some (.row r)∧TF s (CP L.F x) y.1 y.2 ∧
  EV (some (.row r)) (i * 13) 13=some (F7 (CP L.F x) y.1)∧(∀k,k<13→DY (some (.row r)) (i * 13+k)=(F7 (CP L.F x) y.1)[k]?)∧OG L.S.length L.A.length i (CP L.F x)∧L.F[i]? = some (CP L.F x)∧(∀j∈y.2,j∈O):=by
 obtain⟨q,fv,mf,av,mk,X,OS,OB,OA,e⟩:=hL.ex
 obtain⟨i,hi,hget,hix⟩:=XM (x:=x) h0
 obtain⟨y,j,r,h1,h2,rfl,h4,h5,h6,h7⟩:=e.form hget
 exact⟨q,mf,av,mk,j,i,r,y,OS,e.obj,e.plt,e.lt j h4,hi,hix,h5,h2,h6,h7,hL.ok i _ hget,hget,e.parts.2.2.2.2.2.2 y (A8a h1)⟩
theorem tO{f:Nat}(hf:f<L.F.length){bl bf:Nat}(hbl:s.heap.get bl=some (R 24 0 false [.ptr (some (p,0))]))(hbf:s.heap.get bf=some (R 3 0 false [iv (f:Int)]))(hK:K (.tuple [iv (1+(CP L.F f).size),.str ([40,110,111,116,32]++(CP L.F f).text++[41])]) s):
  WF E 43 [.ptr (some (bl,0)),.ptr (some (bf,0))] K s:=by
 obtain⟨q,mf,av,mk,j,i,r,y,OS,hobj,hp,hj,hi,hix,hr,hy,_,hld,hok,_⟩:=LY hE hL (x:=(f:Int)) (by omega)
 rw[Gh (by omega)]at hix
 have hif:i=f:=by omega
 subst hif
 refine hE.go A1q (by decide) rfl ?_
 have e1:=Cj (P:=prog) (cap:=none) (i:=j) (o:=0) underlying46 Ny hi
 have l11:DY (s.heap.get j) (i * 13+11)=some (iv (CP L.F i).size):=by
  rw[hr,hld 11 (by omega)]
  obtain⟨kv,a,b,c,d,e,hy6,_⟩:=hy.six
  rw[hy6];rfl
 have l12:DY (s.heap.get j) (i * 13+12)=some (.str (CP L.F i).text):=by
  rw[hr,hld 12 (by omega)]
  obtain⟨kv,a,b,c,d,e,hy6,_⟩:=hy.six
  rw[hy6];rfl
 have hsz:=hok.sz
 have htx:=hok.tx
 have a1:=Db prog 3 1 (CP L.F i).size (by unfold i64;omega)
 have a2:Ch prog .add 9 (.str [40,110,111,116,32]) (.str (CP L.F i).text)=some (.str (40::110::111::116::32::(CP L.F i).text)):=GY (by simp only[A8P,A8b];omega)
 have a3:Ch prog .add 9 (.str (40::110::111::116::32::(CP L.F i).text)) (.str [41])=some (.str (40::110::111::116::32::(CP L.F i).text++[41])):=GY (by simp only[A8P,A8b];omega)
 simp only[A7N,xL,xM,hbl,hbf,hobj,Dt,Ee,qZ,Lq,GS,VQ,VR,e1,l11,l12,a1,Qa,Qb,QS,Wg]
 simp only[a2,a3,QS,Wg]
 exact hK
set_option maxRecDepth 20000 in
theorem A3Q(hsm:L.F.length<1000000)(hSm:L.S.length<99990)(h0:0<L.F.length)(hg:Fp s O){x:Int}(hx:i64 x)
    (hK:∀s' O',DG s' p ⟨L.S,(Gi L.F (N8 L.F.length x)).fs L.F,L.A,L.q⟩ O'→Eb O s s'→DR O O' s→K (iv ((Gi L.F (N8 L.F.length x)).num L.F)) s'):
    WF E 15 [.ptr (some (p,0)),iv x] K s:=by
  obtain⟨q,mf,av,mk,j,i,r,y,OS,hobj,hp,hj,hi,hix,hr,hy,hn13,hld,hok,_⟩:=LY hE hL (x:=x) h0
  obtain⟨kv,c0,c1,c2,c3,c4,hy6,hkd,hks,hlx,d0,d1,d2,d3,d4,d5⟩:=hy.six
  rw[hy6]at hn13 hld
  have hthx:CP L.F (N8 L.F.length x)=CP L.F x:=by
    unfold CP
    rw[Gh (WJ h0)]
  rw[← hix]at hK hthx
  rw[← hthx]at hkd hlx hn13 hld hok
  generalize hfm:CP L.F (i:Int)=fm at hkd hlx hn13 hld hok hK
  have hent:F7 fm [kv,c0,c1,c2,c3,c4]=[iv fm.kind,iv fm.num,iv fm.p0,iv fm.p1,.str fm.rest,kv,c0,c1,c2,c3,c4,iv fm.size,.str fm.text]:=rfl
  rw[hent]at hn13
  refine hE.go A1W (by decide) rfl ?_
  generalize hs:s.next=b at hp hj
  have hs0:s=ext s []:=(Ca s).symm
  have hthere:=fun(K1:AV→CO→Prop) (os:List Cg) (hK:K1 (iv (i:Int)) (ext s os))=>Md (K:=K1) hE (hL.old (Ci (os:=os))) hx (by rw[← hix];exact hK)
  have e1:=Cj (P:=prog) (cap:=none) (i:=j) (o:=0) underlying46 Ny hi
  have hn13':EV (s.heap.get j) (i * 13) 13=some [iv fm.kind,iv fm.num,iv fm.p0,iv fm.p1,.str fm.rest,kv,c0,c1,c2,c3,c4,iv fm.size,.str fm.text]:=by rw[hr];exact hn13
  rw[hs0]
  simp only[A6t,uw,ux,uy,hs,Dt,Ee,Gy,Qa,Qb,QS,Wg,Nat.reduceAdd,Nat.reduceLT]
  refine hthere _ _ ?_
  simp only[uz,vA,vB,hs,hp,hj,hobj,Dt,Ee,Lq,GS,e1,qo,HC,Ny,hn13',uS,JH,J0,d0,d1,d2,d3,d4,d5,Qb,QS,Wg,Nat.reduceAdd,Nat.reduceLT]
  have ho:DL s.next s (ext s [R 24 0 false [.ptr (some (p,0))],R 3 0 false [iv (i:Int)],R 86 0 false [iv fm.kind,iv fm.num,iv fm.p0,iv fm.p1,.str fm.rest,kv,c0,c1,c2,c3,c4,iv fm.size,.str fm.text]]):=Ci
  generalize hse:ext s [R 24 0 false [.ptr (some (p,0))],R 3 0 false [iv (i:Int)],R 86 0 false [iv fm.kind,iv fm.num,iv fm.p0,iv fm.p1,.str fm.rest,kv,c0,c1,c2,c3,c4,iv fm.size,.str fm.text]]=se at ho
  have hnx:se.next=b+3:=by rw[← hse,Ce,CN,hs];rfl
  have g0:se.heap.get (nid b 0)=some (R 24 0 false [.ptr (some (p,0))]):=by rw[← hse,CR hs (by simp)];rfl
  have g1:se.heap.get (nid b 1)=some (R 3 0 false [iv (i:Int)]):=by rw[← hse,CR hs (by simp)];rfl
  have g2:se.heap.get (nid b 2)=some (R 86 0 false [iv fm.kind,iv fm.num,iv fm.p0,iv fm.p1,.str fm.rest,kv,c0,c1,c2,c3,c4,iv fm.size,.str fm.text]):=by rw[← hse,CR hs (by simp)];rfl
  have htruth:∀ (a6 a7 a8 a9:AV),(fm.kind=0∨fm.kind=1)→Qb E kg (fun v s'=>K (Hw v 4) s') [] [.ptr (some (p,0)),iv x,.ptr (some (nid b 0,0)),.ptr (some (nid b 1,0)),.int .i64 0,.ptr (some (nid b 2,0)),a6,a7,a8,a9] se:=fun a6 a7 a8 a9 hk=>by
    rw[LI (by rw[hfm];exact hk),hfm]at hK
    simp only[kg,g0,g2,Dt,Ee,JH,J0,Qb,QS,Wg]
    refine HA hE (hL.old ho) hsm (by omega) fun s' O' k1 k2 k3=>?_
    simp only[QS]
    exact GN ho hK s' O' k1 k2 k3
  by_cases k0:fm.kind=0
  · have dk:decide (fm.kind=0)=true:=decide_eq_true k0
    simp only[dk,QS]
    exact htruth _ _ _ _ (.inl k0)
  have dk0:decide (fm.kind=0)=false:=decide_eq_false k0
  simp only[dk0,vC,Qb,QS]
  by_cases k1:fm.kind=1
  · have dk:decide (fm.kind=1)=true:=decide_eq_true k1
    simp only[dk,QS]
    exact htruth _ _ _ _ (.inr k1)
  have dk1:decide (fm.kind=1)=false:=decide_eq_false k1
  simp only[dk1,vD,Qb,QS]
  by_cases k4:fm.kind=4
  · have dk:decide (fm.kind=4)=true:=decide_eq_true k4
    obtain⟨kk,hkk⟩:=hok.not k4
    rw[gI (by rw[hfm];exact k4),hfm,hkk]at hK
    rw[hkk]at hkd
    obtain⟨j2,q2,cap,rfl,hj2,hld2⟩:=(hkd.old ho).at (k:=0) (x:=kk) rfl
    have e2:CQ prog 30 (.slice (some (j2,q2)) 1 cap) (.int .i64 0)=some (.ptr (some (j2,q2+0 * 1))):=Cj (P:=prog) underlying30 HC (show 0<1 by omega)
    simp only[dk,kY,RH,IT,Ee,g2,A8P,A8b,e2,hld2,Qb,QS,Wg]
    exact hK se O (hL.old ho) (ho.frO O) (DR.refl O s)
  have dk4:decide (fm.kind=4)=false:=decide_eq_false k4
  rw[UI (by rw[hfm];exact k0) (by rw[hfm];exact k1) (by rw[hfm];exact k4)]at hK
  have hi64:i64 (i:Int):=by unfold i64;omega
  have ho5:DL s.next s (ext se [R 3 1 false (Dv [(i:Int)]),R 3 1 false (Dv [(i:Int)])]):=ho.trans ((Ci (s:=se)).mono ho.1)
  have hse0:se=ext se []:=(Ca se).symm
  generalize hs5:ext se [R 3 1 false (Dv [(i:Int)]),R 3 1 false (Dv [(i:Int)])]=s5 at ho5
  have hn5:s5.next=b+5:=by rw[← hs5,Ce,CN,hnx];rfl
  have r0:s5.heap.get (nid (b+3) 0)=some (R 3 1 false (Dv [(i:Int)])):=by rw[← hs5,CR hnx (by simp)];rfl
  have r1:s5.heap.get (nid (b+3) 1)=some (R 3 1 false (Dv [(i:Int)])):=by rw[← hs5,CR hnx (by simp)];rfl
  have f0:s5.heap.get (nid b 0)=some (R 24 0 false [.ptr (some (p,0))]):=by rw[← hs5,Cm (by rw[hnx,CN];omega)];exact g0
  have f1:s5.heap.get (nid b 1)=some (R 3 0 false [iv (i:Int)]):=by rw[← hs5,Cm (by rw[hnx,CN];omega)];exact g1
  have hrd:Cl s5 (.slice (some (nid (b+3) 0,0)) 1 (some 1)) [(i:Int)]:=.inr ⟨_,0,some 1,rfl,by rw[hn5,CN];omega,by rw[r0];exact D3 (A8H _)⟩
  have hnum:=fun(K1:AV→CO→Prop)=>Ty (K:=K1) hE hrd (by simp) (by simp) (fun y hy=>by simp at hy;rw[hy];exact hi64) (hg.old ho5)
  have gE0:∀os,(ext se os).heap.get (nid b 0)=some (R 24 0 false [.ptr (some (p,0))]):=fun os=>by rw[Cm (by rw[hnx,CN];omega)];exact g0
  have gE1:∀os,(ext se os).heap.get (nid b 1)=some (R 3 0 false [iv (i:Int)]):=fun os=>by rw[Cm (by rw[hnx,CN];omega)];exact g1
  have hm:5≤5:=A8H _
  rw[hse0]
  simp only[dk4,kf,Fo,hnx,Dt,Ee,gE0,gE1,Wn,hs5,List.take,List.drop,A8e,A8i,Qb,QS,Wg]
  refine hnum _ fun s6 ho6=>?_
  have ho7:DL s.next s s6:=ho5.trans (ho6.mono ho5.1)
  have q0:s6.heap.get (nid b 0)=some (R 24 0 false [.ptr (some (p,0))]):=by rw[ho6.2 _ (by rw[hn5,CN];omega)];exact f0
  have q1:s6.heap.get (nid b 1)=some (R 3 0 false [iv (i:Int)]):=by rw[ho6.2 _ (by rw[hn5,CN];omega)];exact f1
  have q4:s6.heap.get (nid (b+3) 1)=some (R 3 1 false (Dv [(i:Int)])):=by rw[ho6.2 _ (by rw[hn5,CN];omega)];exact r1
  have hn6:b+5≤s6.next:=by have:=ho6.1;omega
  refine⟨⟨Hh (by simp only[QS];rw[Ha Ee,q1];rfl) (by simp only[QS];exact dJ _),Hh (by simp only[QS];rw[Ha Dt,q0];rfl) (by simp only[QS];exact Jz _ _),trivial⟩,?_⟩
  have hsz:=hok.sz
  have htx:=hok.tx
  have hnl:=Xw (l:=[(i:Int)]) (fun y hy=>by simp at hy;rw[hy];exact hi64)
  have hlt:=hL.lt
  have hput:=fun(K1:AV→CO→Prop)=>NX (E:=E) (K:=K1) hE (hL.old ho7) hsm (by omega) (f:=Sx L.F (i:Int)) (x:=.slice (some (nid (b+3) 1,0)) 1 (some 1)::KE) (xo:=[nid (b+3) 1])
    (Ze ⟨by show(0:Int)≤4;omega,by show(4:Int)≤9;omega⟩ (by show i64 0;unfold i64;omega) ⟨by show(-1:Int)≤0;omega,by show(0:Int)≤L.S.length;omega⟩ ⟨by show(-1:Int)≤0;omega,by show(0:Int)≤L.S.length;omega⟩ (by show(Mf [(i:Int)]).length≤_;simp at hnl;omega)
      (fun k hk=>by have hk:k∈[(i:Int)]:=hk;simp at hk;omega) (fun _=>⟨_,rfl⟩) (fun h=>by cases h) (by show 1≤1+(CP L.F (i:Int)).size;rw[hfm];omega)
      (fun h=>by show(([40,110,111,116,32]++(CP L.F (i:Int)).text++[41]).length:Int)≤200000 * (1+(CP L.F (i:Int)).size);rw[hfm];simp only[A8X,A8P,A8b];omega) (by show([(i:Int)]).length≤_;simp))
    ⟨⟨_,_,rfl,.inr ⟨nid (b+3) 1,0,some 1,rfl,by rw[CN];omega,by rw[q4];exact D3 (A8H _)⟩,(fun j hj=>by injection hj with hj;simp[hj]),rfl⟩,fun j hj=>by simp at hj;rw[hj,CN];omega⟩
    (fun j hj hO=>by simp at hj;have:=hlt j hO;rw[hj,CN]at this;omega) (g:=43) (fs:=[]) (cs:=[.ptr (some (nid b 0,0)),.ptr (some (nid b 1,0))])
    (fun s1 K1 k1 k2=>tO hE ((hL.old ho7).old k1) hi ((k1.2 _ (by rw[CN];omega)).trans q0) ((k1.2 _ (by rw[CN];omega)).trans q1) (k2 s1 (DL.refl _ _)))
  simp only[TK,QS]
  refine hput _ fun s' O' k1 k2 k3=>?_
  simp only[QS]
  refine hK s' O' k1 ((ho7.frO O).trans k2 (DR.refl O s)) fun j hj=>?_
  rcases k3 j hj with h | h
  · rcases A8q.1             h with h | h
    · simp at h;exact .inr (by rw[h,CN];omega)
    · exact .inl h
  · exact .inr (by omega)
end
def Mj(F:List Fm)(kind x:Int):List Int:=if (CP F x).kind=kind then (CP F x).kids else [x]
def EY(F:List Fm)(kind:Int):List Int→List Int
 | []=>[]
 | x::l=>Mj F kind (N8 F.length x)++EY F kind l
theorem Cl.fx{W:List Nat}{s s':CO}{v:AV}{l:List Int}(h:Cl s v l)(hf:Eb W s s')(hs:∀j,EQ v=some j→j ∉ W):Cl s' v l:=by
 rcases h with h | ⟨j,q,cap,rfl,h2,h3⟩
 ·exact .inl h
 ·exact .inr ⟨j,q,cap,rfl,A8L h2 hf.1,by rw[hf.2 j h2 (hs j rfl)];exact h3⟩
theorem Eb.tr{W:List Nat}{s s1 s2:CO}(h:Eb W s s1)(k:Eb W s1 s2):Eb W s s2:=h.trans k (DR.refl W s)
section
variable{E:Dw}(hE:Cn E){W:List Nat}{sA:CO}{l:Nat}(I:List Int→CO→Prop)(D:CO→Prop)(hstab:∀r S S',I r S→DL S.next S S'→I r S')
  (hstep:∀y r S (K:AV→CO→Prop),Eb W sA S→I (y::r) S→(∀S',Eb W S S'→I r S'→K (.bool true) S')→(∀S',Eb W S S'→D S'→K (.bool false) S')→WR E l [iv y] K S)
include hE hstab hstep
theorem sY{own r:List Int}{ov:AV}(hl:own.length≤1000000)(hsl:∀j,EQ ov=some j→j ∉ W){Q:Da→Prop}(v1 v2 v3 v4 v7 v8 v9 v10 v11:AV):∀ (r2 d2:List Int)(S:CO)(x6 x15 x16:AV),own=d2++r2→Eb W sA S→I (r2++r) S→Cl S ov own →
  (∀S' (y6 y15 y16:AV),Eb W sA S'→I r S'→Cs 2 Q ⟨.exit 2,[.yield l,v1,v2,v3,v4,ov,y6,v7,v8,v9,v10,v11,ov,iv (own.length:Int),iv (own.length:Int),y15,y16],[],S'⟩) →
  (∀S' var,Eb W sA S'→D S'→Cs 2 Q ⟨.ret,var,[],S'⟩) →
  WC E none (Ck.loop LU) (Cs 2 Q) [.yield l,v1,v2,v3,v4,ov,x6,v7,v8,v9,v10,v11,ov,iv (own.length:Int),iv (d2.length:Int),x15,x16] [] S:=by
 intro r2
 induction r2 with
 | nil =>
  intro d2 S x6 x15 x16 hd hf hI hrd hq1 hq2
  have:own=d2:=by simpa using hd
  subst this
  refine WC.loop' ?_
  simp only[LU,Y8,A8l,A9a,Qa,Qb,QS]
  exact hq1 S _ _ _ hf hI
 | cons y r2 ih =>
  intro d2 S x6 x15 x16 hd hf hI hrd hq1 hq2
  refine WC.loop' ?_
  obtain⟨V,hV⟩:∃V,V=Ck.loop LU:=⟨_,rfl⟩
  rw[← hV]
  have hlt:((d2.length:Int)<(own.length:Int)):=by rw[hd];simp;omega
  have hltn:d2.length<own.length:=by omega
  have hat:own[d2.length]? = some y:=by rw[hd];simp
  obtain⟨j,q0,cap,rfl,hj,hld⟩:=hrd.at hat
  have e1:=Cj (P:=prog) (cap:=cap) (i:=j) (o:=q0) underlying30 HC hltn
  have hadd:i64 ((d2.length:Int)+1):=by unfold i64;omega
  simp only[LU,Y8,jw,bu,bv,hlt,A9Z,Qa,Qb,QS,e1,Ee,hld,A8S,Wg]
  refine hstep y (r2++r) S _ hf hI (fun S' h1 h2=>?_) (fun S' h1 h2=>?_)
  ·simp only[QS,Db _ _ _ _ hadd]
   have:=ih (d2++[y]) S' (iv y) (.bool true) (.bool false) (by rw[hd];simp) (hf.tr h1) h2 (hrd.fx h1 hsl) hq1 hq2
   rw[← hV,show(d2++[y]).length=d2.length+1 from by simp]at this
   exact this
  ·simp only[QS]
   exact hq2 S' _ (hf.tr h1) h2
variable{p:Nat}{L:LG}{O:List Nat}(hL:DG sA p L O)(h0:0<L.F.length)(hW:∀j∈W,j ∉ O∧j<sA.next){fl:List Int}{fv:AV}(hrd:Cl sA fv fl)(hfl:fl.length≤1000000)(hi:∀x∈fl,i64 x)(hsf:∀j,EQ fv=some j→j ∉ W){kind:Int}
  {bF bL bK:Nat} (gF:sA.heap.get bF=some (R 30 0 false [fv])) (gL:sA.heap.get bL=some (R 24 0 false [.ptr (some (p,0))])) (gK:sA.heap.get bK=some (R 3 0 false [iv kind])) (hb:bF<sA.next∧bL<sA.next∧bK<sA.next) (hbW:bF ∉ W∧bL ∉ W∧bK ∉ W)
include hL h0 hW hrd hfl hi hsf gF gL gK hb hbW
set_option maxRecDepth 20000 in
theorem nX{Q:Da→Prop}:∀ (r2 d2:List Int)(S:CO)(x4 x5 x6 x10 x11 x12 x13 x14 x15 x16:AV),fl=d2++r2→Eb W sA S→I (EY L.F kind r2) S →
    (∀S' var,Eb W sA S'→I [] S'→Cs 0 Q ⟨.exit 0,var,[],S'⟩)→(∀S' var,Eb W sA S'→D S'→Cs 0 Q ⟨.ret,var,[],S'⟩) →
    WC E none (Ck.loop M8) (Cs 0 Q) [.yield l,.ptr (some (bF,0)),.ptr (some (bL,0)),.ptr (some (bK,0)),x4,x5,x6,fv,iv (fl.length:Int),iv (d2.length:Int),x10,x11,x12,x13,x14,x15,x16] [] S:=by
  intro r2
  induction r2 with
  | nil =>
    intro d2 S x4 x5 x6 x10 x11 x12 x13 x14 x15 x16 hd hf hI hq1 hq2
    have:fl=d2:=by simpa using hd
    subst this
    refine WC.loop' ?_
    simp only[M8,Y6,A8l,A9a,Qa,Qb,QS]
    exact hq1 S _ hf hI
  | cons x r2 ih =>
    intro d2 S x4 x5 x6 x10 x11 x12 x13 x14 x15 x16 hd hf hI hq1 hq2
    refine WC.loop' ?_
    obtain⟨V,hV⟩:∃V,V=Ck.loop M8:=⟨_,rfl⟩
    rw[← hV]
    have hlt:((d2.length:Int)<(fl.length:Int)):=by rw[hd];simp;omega
    have hltn:d2.length<fl.length:=by omega
    have hat:fl[d2.length]? = some x:=by rw[hd];simp
    have hfS:=hrd.fx hf hsf
    obtain⟨j,q0,cap,rfl,hj,hld⟩:=hfS.at hat
    have e1:=Cj (P:=prog) (cap:=cap) (i:=j) (o:=q0) underlying30 HC hltn
    have hadd:i64 ((d2.length:Int)+1):=by unfold i64;omega
    have hx:i64 x:=hi x (by rw[hd];simp)
    have hLS:DG S p L O:=hL.frame hf.1 fun k hk=>hf.2 k (hL.lt k hk) fun h=>(hW k h).1 hk
    have gL1:=(hf.2 bL hb.2.1 hbW.2.1).trans gL
    have gK1:=(hf.2 bK hb.2.2 hbW.2.2).trans gK
    obtain⟨q,mf,av,mk,j2,i,r,y,OS,hobj,hp,hj2,hil,hix,hr,hy,_,hldf,hok,_,hyO⟩:=LY hE hLS (x:=x) h0
    obtain⟨kv,c0,c1,c2,c3,c4,hy6,hkd,hks,hlx,d0,d1,d2',d3,d4,d5⟩:=hy.six
    rw[hy6]at hldf
    have hth:CP L.F (N8 L.F.length x)=CP L.F x:=by
      unfold CP
      rw[Gh (WJ h0)]
    have l0:DY (S.heap.get j2) (i * 13)=some (iv (CP L.F x).kind):=by rw[hr];exact hldf 0 (by omega)
    have l5:DY (S.heap.get j2) (i * 13+5)=some kv:=by rw[hr];exact hldf 5 (by omega)
    have e2:=Cj (P:=prog) (cap:=none) (i:=j2) (o:=0) underlying46 Ny hil
    have hthere:=fun(K1:AV→CO→Prop) (hK:K1 (iv (i:Int)) S)=>Md (K:=K1) hE hLS hx (by rw[← hix];exact hK)
    simp only[M8,Y6,jo,jp,hlt,A9Z,Qa,Qb,QS,e1,Ee,hld,A8S,gL1,Dt,Wg]
    refine hthere _ ?_
    generalize hs:S.next=b at hp hj2
    have hS0:S=ext S []:=(Ca S).symm
    have gLe:∀os,(ext S os).heap.get bL=some (R 24 0 false [.ptr (some (p,0))]):=fun os=>by rw[Cm (A8L hb.2.1 hf.1)];exact gL1
    have gKe:∀os,(ext S os).heap.get bK=some (R 3 0 false [iv kind]):=fun os=>by rw[Cm (A8L hb.2.2 hf.1)];exact gK1
    have hso:∀os,Eb W sA (ext S os):=fun os=>hf.tr (Ci.frO W)
    have hsI:∀os,I (EY L.F kind (x::r2)) (ext S os):=fun os=>hstab _ _ _ hI Ci
    have hbA:sA.next≤b:=by have:=hf.1;omega
    have hfin:∀ (own:List Int) (ov:AV) (S':CO) (x6 x11 x12 x13 x14 x15 x16:AV),own=Mj L.F kind (N8 L.F.length x)→own.length≤1000000→(∀j,EQ ov=some j→j ∉ W)→Eb W sA S'→I (own++EY L.F kind r2) S'→Cl S' ov own →
        Qb E Y7 (fun v s'=>WC E none (Ck.loop LU) (Cs 2 (Cs 1 (Nr (fun x x_1 x_2=>Qb E U0 (fun v s'=>WC E none V (Cs 0 Q) v x_1 s') [] x x_2) (Nr (WC E none V (Cs 0 Q)) (Cs 0 Q))))) v [] s') []
          [.yield l,.ptr (some (bF,0)),.ptr (some (bL,0)),.ptr (some (bK,0)),iv (i:Int),ov,x6,.slice (some (j,q0)) fl.length cap,iv (fl.length:Int),iv (d2.length:Int),.bool true,x11,x12,x13,x14,x15,x16] S':=by
      intro own ov S' x6 x11 x12 x13 x14 x15 x16 ho hol hsl hf' hI' hrd'
      have hlo:=hrd'.len
      simp only[Y7,hlo,Qb,QS]
      refine sY hE I D hstab hstep hol hsl _ _ _ _ _ _ _ _ _ own [] S' _ _ _ rfl hf' hI' hrd' (fun S2 y6 y15 y16 k1 k2=>?_) (fun S2 var k1 k2=>?_)
      · simp only [QS]
        simp only[if_true,U0,Db _ _ _ _ hadd,Qb,QS]
        have:=ih (d2++[x]) S2 (iv (i:Int)) ov y6 (.bool true) x11 ov (iv (own.length:Int)) (iv (own.length:Int)) y15 y16 (by rw[hd];simp) k1 k2 hq1 hq2
        rw[← hV,show(d2++[x]).length=d2.length+1 from by simp]at this
        exact this
      · simp only[QS]
        exact hq2 S2 var k1 k2
    rw[hS0]
    simp only[jq,ju,Fo,hs,gLe,gKe,Dt,Ee,Lq,GS,hp,hj2,hobj,e2,JH,J0,A8f,l0,Qb,QS,Wg]
    have hol:Mj L.F kind (N8 L.F.length x)=if (CP L.F x).kind=kind then (CP L.F x).kids else [(i:Int)]:=by unfold Mj;rw[hth,← hix]
    by_cases hk:(CP L.F x).kind=kind
    · rw[if_pos hk]at hol
      have hkc:kv.cells=[kv]:=by rcases hkd with⟨_,rfl⟩ | ⟨_,_,_,rfl,_⟩<;>rfl
      have hdk:decide ((CP L.F x).kind=kind)=true:=decide_eq_true hk
      simp only[hdk,jv,hs,gLe,Dt,IT,Lq,GS,hp,hj2,hobj,e2,RH,l5,Qb,QS,Wg]
      refine hfin _ kv _ _ _ _ _ _ _ _ hol.symm hok.kl (fun j hj hw=>(hW j hw).1 (hyO j (hks j hj))) (hso _) ?_ (hkd.old Ci)
      have:=hsI [R 3 1 false (Dv [(i:Int)])]
      unfold EY at this
      rw[hol]at this
      exact this
    · rw[if_neg hk]at hol
      have hdk:decide ((CP L.F x).kind=kind)=false:=decide_eq_false hk
      simp only[hdk,QS]
      refine hfin [(i:Int)] (.slice (some (nid b 0,0)) 1 (some 1)) _ _ _ _ _ _ _ _ hol.symm (by simp) (fun j hj hw=>?_) (hso _) ?_ (.inr ⟨nid b 0,0,some 1,rfl,by rw[Ce,hs,CN,CN];simp,by rw[CR hs (by simp)];exact D3 (A8H _)⟩)
      · injection hj with hj
        have:=(hW j hw).2
        rw[← hj,CN]at this
        omega
      · have:=hsI [R 3 1 false (Dv [(i:Int)])]
        unfold EY at this
        rw[hol]at this
        exact this
theorem nU{K:AV→CO→Prop}(hI:I (EY L.F kind fl) sA)(hq1:∀S',Eb W sA S'→I [] S'→K (.tuple []) S')(hq2:∀S',Eb W sA S'→D S'→K (.tuple []) S'):WF E 117 [.yield l,.ptr (some (bF,0)),.ptr (some (bL,0)),.ptr (some (bK,0))] K sA:=by
 refine hE.go rq (by decide) rfl ?_
 have hlen:=hrd.len
 simp only[A4X,jn,gF,IT,hlen,Qa,Qb,QS,Wg]
 refine nX hE I D hstab hstep hL h0 hW hrd hfl hi hsf gF gL gK hb hbW fl [] sA _ _ _ _ _ _ _ _ _ _ rfl (Eb.refl W sA) hI (fun S' var h1 h2=>?_) (fun S' var h1 h2=>?_)
 ·simp only[QS]
  rw[if_pos trivial]
  exact hq1 S' h1 h2
 ·simp only[QS]
  exact hq2 S' h1 h2
end
end
end Go.Proofs.YtoaaclpjkelofaaGreatDoor.Am
set_option linter.all false
set_option maxHeartbeats 1000000
set_option maxRecDepth 20000
namespace Go.Proofs.YtoaaclpjkelofaaGreatDoor.Am
open Go Go.Proofs
noncomputable section
open Tryz
def Cy(ks:List Int):List (AV×AV):=ks.map fun k=>(iv k,.agg [])
theorem I1(k:Int):∀ (ks:List Int)(i:Nat),Fw (iv k) (Cy ks) i=some (if k∈ks then some (i+ks.idxOf k,.agg [])else none)
  | [],i=>by simp[Fw,Cy]
  | x::ks,i=>by
    have h1:GW (iv k) (iv x)=some (decide (k=x)):=by simp[GW,FS,CU,Hn];rfl
    show(GW (iv k) (iv x)).bind _=_
    rw[h1,Option.bind_some]
    by_cases e:k=x
    · subst e;simp
    · simp only [e, A9a]
      show Fw (iv k) (Cy ks) (i+1)=_
      rw[I1 k ks (i+1)]
      by_cases hm:k∈ks
      · rw[if_pos hm,if_pos (A8J _ hm)]
        have:(x::ks).idxOf k=ks.idxOf k+1:=by rw[List.idxOf_cons,beq_false_of_ne (Ne.symm e)];rfl
        rw[this,show i+1+ks.idxOf k=i+(ks.idxOf k+1)from by omega]
      · rw[if_neg hm,if_neg (by simp[e,hm])]
theorem Ns:∀ (ks:List Int)(i:Nat),setNth (Cy ks) i (.agg [])=Cy ks
 | [],_=>rfl
 | k::ks,0=>rfl
 | k::ks,i+1=>by show(iv k,.agg [])::setNth (Cy ks) i (.agg [])=_;rw[Ns ks i];rfl
theorem aP(ks:List Int)(k:Int):Pp (iv k) (.agg []) (Cy ks)=some (Cy (FO ks k)):=by
 unfold Pp FO
 rw[I1,Option.bind_some]
 by_cases h:k∈ks
 ·rw[if_pos h,if_pos h]
  simp only[Ns]
 ·rw[if_neg h,if_neg h]
  simp[Cy]
theorem GF{s:CO}{i:Nat}{ks:List Int}{k:Int}(hg:s.heap.get i=some (.map 3 (Cy ks)))(hk:i64 k):
  EF prog s 57 (.map (some i)) (iv k) (.agg [])=some (setObj s i (.map 3 (Cy (FO ks k)))):=by
 unfold EF
 simp only[underlying57,Sf,Do hk,EB,I4,hg,Hk,Option.bind_some,aP]
theorem M5:C8 prog 63 (zipIdx [] [])=some (.agg []):=by kernel_rfl
def Jv(none_ all:Int):List Int→List Int→Option (List Int)
 | own,[]=>some own
 | own,x::l=>if x=all then none else Jv none_ all (if x=none_ then own else FO own x) l
def A8E (v0 v1 v2 v3:AV) (b4 b5 b6 b7 b8 b9:Nat) (x10 x11 x12 x13 x14 x15 fn x17 x18 x19 x20 x21 x22 x23 x24 x25 x26:AV) (mk:Nat):Fv:=
 Gv 45 [v0,v1,v2,v3,.ptr (some (b4,0)),.ptr (some (b5,0)),.ptr (some (b6,0)),.ptr (some (b7,0)),.ptr (some (b8,0)),.ptr (some (b9,0)),x10,x11,x12,x13,x14,x15,fn,x17,x18,x19,x20,x21,x22,x23,x24,x25,x26] #[31] lS lT mk
structure A3o(lo:Fv)(b7 b8 b9 m l:Nat)(nn all:Int)(n:Nat)(res:Option (List Int))(r:List Int)(S:CO):Prop where
 lp:Df S l=some lo
 ll:l<S.next
 g7:S.heap.get b7=some (R 3 0 false [iv nn])
 g8:S.heap.get b8=some (R 3 0 false [iv all])
 g9:S.heap.get b9=some (R 57 0 false [.map (some m)])
 lt:b7<S.next∧b8<S.next∧b9<S.next∧m<S.next
 i64:∀x∈r,i64 x
 ex:∃own,S.heap.get m=some (.map 3 (Cy own))∧Jv nn all own r=res∧own.Nodup∧(∀x∈own,Go.Proofs.YtoaaclpjkelofaaGreatDoor.Am.i64 x)∧own.length+r.length≤n
theorem A3o.stab{lo:Fv}{b7 b8 b9 m l:Nat}{nn all:Int}{n:Nat}{res:Option (List Int)}{r:List Int}{S S':CO}(h:A3o lo b7 b8 b9 m l nn all n res r S)(o:DL S.next S S'):A3o lo b7 b8 b9 m l nn all n res r S':=by
 obtain⟨h1,h2,h3,h4,h5,⟨k1,k2,k3,k4⟩,h7,own,h8,h9⟩:=h
 have hn:=o.1
 exact⟨(En (o.2 l h2)).trans h1,by omega,(o.2 _ k1).trans h3,(o.2 _ k2).trans h4,(o.2 _ k3).trans h5,⟨by omega,by omega,by omega,by omega⟩,h7,own,(o.2 _ k4).trans h8,h9⟩
structure A6o(lo:Fv)(b6 l:Nat)(all:Int)(res:Option (List Int))(S:CO):Prop where
 lp:Df S l=some { lo with state:=.done,pending:=some .ret }
 ll:l<S.next
 g6:S.heap.get b6=some (R 3 0 false [iv all])
 eq:res=none
section
variable{E:Dw}
theorem oV(hE:Cn E){v0 v1 v2 v3 x10 x11 x12 x13 x14 x15 fn x17 x18 x19 x20 x21 x22 x23 x24 x25 x26:AV}{b4 b5 b6 b7 b8 b9 mk m l:Nat}{nn all:Int}{n:Nat}{res:Option (List Int)}{S:CO}{y:Int}{r:List Int}{lo:Fv}
    (hlo:lo=A8E v0 v1 v2 v3 b4 b5 b6 b7 b8 b9 x10 x11 x12 x13 x14 x15 fn x17 x18 x19 x20 x21 x22 x23 x24 x25 x26 mk)
    (h6:S.heap.get b6=some (R 3 0 false [iv 0])) (hb6:b6<S.next) (hd:b6≠b7∧b6≠b8∧b6≠b9∧m≠b6∧m≠b7∧m≠b8∧m≠b9∧l≠b6∧l≠b7∧l≠b8∧l≠b9∧l≠m)
    (hI:A3o lo b7 b8 b9 m l nn all n res (y::r) S) {K:AV→CO→Prop}
    (hK1:∀S',Eb [l,m] S S'→A3o lo b7 b8 b9 m l nn all n res r S'→K (.bool true) S') (hK2:∀S',Eb [l,m,b6] S S'→A6o lo b6 l all res S'→K (.bool false) S'):WR E l [iv y] K S:=by
  obtain⟨hlp,hll,g7,g8,g9,⟨k1,k2,k3,k4⟩,h64,own,gm,hcol,hnd,ho64,hn⟩:=hI
  obtain⟨e1,e2,e3,e4,e5,e6,e7,e8,e9,e10,e11,e12⟩:=hd
  have hz:FW (Fu E.P lo.fn) lo.var lo.params.toList [iv y]=some [v0,v1,v2,v3,.ptr (some (b4,0)),.ptr (some (b5,0)),.ptr (some (b6,0)),.ptr (some (b7,0)),.ptr (some (b8,0)),.ptr (some (b9,0)),x10,x11,x12,x13,x14,x15,fn,iv y,x18,x19,x20,x21,x22,x23,x24,x25,x26]:=by
    subst hlo
    show FW (Fu E.P 45) _ [31] _=_
    rw[hE.P,lf];rfl
  refine WR.round hlp hz (by subst hlo;rw[hE.P];exact A1M) (by subst hlo;rw[hE.P];exact A1N) ?_
  refine HB ?_
  simp only[lZ,xT,Qa,Qb,QS]
  refine⟨lo,hlp,by subst hlo;rfl,HB ?_⟩
  generalize hs4:setObj S l _=s4
  have n4:s4.next=S.next:=by rw[← hs4];rfl
  have f4:∀j,j≠l→s4.heap.get j=S.heap.get j:=fun j hj=>by rw[← hs4,CS _ hj]
  have l4:Df s4 l=some { lo with state:=.busy }:=by rw[← hs4,Ep]
  have q6:=(f4 b6 (Ne.symm e8)).trans h6
  have q7:=(f4 b7 (Ne.symm e9)).trans g7
  have q8:=(f4 b8 (Ne.symm e10)).trans g8
  have q9:=(f4 b9 (Ne.symm e11)).trans g9
  have qm:=(f4 m (Ne.symm e12)).trans gm
  have hy:i64 y:=h64 y A8M
  simp only[lb,xU,q8,Ee,Qa,Qb,QS,Wg]
  by_cases ha:y=all
  · have hda : decide (y = all) = true := decide_eq_true ha
    have hres:res=none:=by rw[← hcol];unfold Jv;rw[if_pos ha]
    simp only[hda,xV,q8,q6,Ee,HC,Qb,QS,Wg]
    refine⟨{ lo with state:=.busy },(En (CS _ e8)).trans l4,hK2 _ ⟨by rw[Cp,Cp,n4];exact A8H _,fun j hj hjW=>?_⟩ ⟨Ep _ _ _,by rw[Cp,Cp,n4];exact hll,?_,hres⟩⟩
    · simp only[A8I,A8K,A9V,not_or]at hjW
      rw[CS _ hjW.1,CS _ hjW.2.2,f4 j hjW.1]
    · rw[CS _ (Ne.symm e8),Co]
  · have hda:decide (y=all)=false:=decide_eq_false ha
    simp only[hda,xW,q7,Ee,Qb,QS,Wg]
    have hcol2:Jv nn all (if y=nn then own else FO own y) r=res:=by rw[← hcol];conv=>rhs;unfold Jv;rw[if_neg ha]
    by_cases hnn:y=nn
    · have hdn:decide (y=nn)=true:=decide_eq_true hnn
      rw[if_pos hnn]at hcol2
      have hdn2:decide (¬ y=nn)=false:=by simp[hnn]
      simp only[ne_eq,hdn2,QS]
      refine⟨_,l4,hK1 _ ⟨by rw[Cp,n4];exact A8H _,fun j hj hjW=>?_⟩ ⟨?_,?_,?_,?_,?_,?_,fun x hx=>h64 x (A8J _ hx),own,?_,hcol2,hnd,ho64,by simp at hn;omega⟩⟩
      · simp only[A8I,A8K,A9V,not_or]at hjW
        rw[CS _ hjW.1,f4 j hjW.1]
      · rw[Ep];subst hlo;rfl
      · rw[Cp,n4];exact hll
      · rw[CS _ (Ne.symm e9)];exact q7
      · rw[CS _ (Ne.symm e10)];exact q8
      · rw[CS _ (Ne.symm e11)];exact q9
      · rw[Cp,n4];exact⟨k1,k2,k3,k4⟩
      · rw[CS _ (Ne.symm e12)];exact qm
    · have hdn2:decide (¬ y=nn)=true:=by simp[hnn]
      rw[if_neg hnn]at hcol2
      have hup:=GF qm hy
      simp only[ne_eq,hdn2,xX,q9,Pn,M5,hup,Qb,QS,Wg]
      refine⟨_,(En (CS _ e12)).trans l4,hK1 _ ⟨by rw[Cp,Cp,n4];exact A8H _,fun j hj hjW=>?_⟩ ⟨?_,?_,?_,?_,?_,?_,fun x hx=>h64 x (A8J _ hx),FO own y,?_,hcol2,Jt hnd y,fun x hx=>(EU.1 hx).elim (ho64 x) (fun h=>h▸hy),?_⟩⟩
      · simp only[A8I,A8K,A9V,not_or]at hjW
        rw[CS _ hjW.1,CS _ hjW.2,f4 j hjW.1]
      · rw[Ep];subst hlo;rfl
      · rw[Cp,Cp,n4];exact hll
      · rw[CS _ (Ne.symm e9),CS _ (Ne.symm e5)];exact q7
      · rw[CS _ (Ne.symm e10),CS _ (Ne.symm e6)];exact q8
      · rw[CS _ (Ne.symm e11),CS _ (Ne.symm e7)];exact q9
      · rw[Cp,Cp,n4];exact⟨k1,k2,k3,k4⟩
      · rw[CS _ (Ne.symm e12),Co]
      · have:(FO own y).length≤own.length+1:=by unfold FO;split<;>simp
        simp at hn;omega
end
theorem iZ:GG prog 128=some false:=by kernel_rfl
theorem A3c:DZ prog 128=some 1:=by kernel_rfl
theorem A3m:FV prog 128=some .nilFunc:=by kernel_rfl
section
variable{E:Dw}(hE:Cn E){s:CO}{b9 m:Nat}{own:List Int}(r9:DY (s.heap.get b9) 0=some (.map (some m)))(rm:Gw s 3 m=some (Cy own))(h9:b9<s.next)(hm:m<s.next){K:AV→CO→Prop}
theorem oZ{s s':CO}{t m:Nat}(h:s'.heap.get m=s.heap.get m):Gw s' t m=Gw s t m:=by unfold Gw;rw[h]
include hE r9 rm h9 hm
theorem SA{x:Int}(hx:i64 x)(hK:∀s',DL s.next s s'→K (.bool (decide (x∈own))) s'):WF E 81 [iv x,.ptr (some (b9,0))] K s:=by
 refine hE.go A2O (by decide) rfl ?_
 have hlk:Dy prog s 57 (.map (some m)) (iv x) true=some (.tuple [.agg [],.bool (decide (x∈own))]):=by
  unfold Dy
  simp only[underlying57,Sf,Do hx,EB,rm,Option.bind_some,I1]
  by_cases hm:x∈own<;>simp[hm,iJ]
 generalize hs:s.next=b
 have hs0:s=ext s []:=(Ca s).symm
 have r9':DY ((ext s []).heap.get b9) 0=some (.map (some m)):=by rw[Ca];exact r9
 have hlk':Dy prog (ext s []) 57 (.map (some m)) (iv x) true=some (.tuple [.agg [],.bool (decide (x∈own))]):=by rw[Ca];exact hlk
 rw[hs0]
 simp only[A7l,zO,zP,zR,Pn,r9',hlk',F4,iJ,A3a,hs,Qa,Qb,QS,Wg]
 exact hK _ Ci
theorem oW{b13:Nat}(r13:DY (s.heap.get b13) 0=some (.func 81 [] [.ptr (some (b9,0))])){x:Int}(hx:i64 x)(hK:∀s',DL s.next s s'→K (.bool (!decide (x∈own))) s'):WF E 83 [iv x,.ptr (some (b13,0))] K s:=by
 refine hE.go A2Q (by decide) rfl ?_
 simp only[A7n,zU,zV,iZ,r13,A8i,A8e,Qa,Qb,QS,Wg]
 refine SA hE r9 rm h9 hm hx fun s' ho=>?_
 simp only[QS]
 exact hK s' ho
end
section
variable{E:Dw}(hE:Cn E){s:CO}{v:AV}{l:List Int}(hv:Cl s v l)(hl:l.length≤1000000){g:FuncId}{fs cs:List AV}(P:Int→Bool)
  (hf:∀y∈l,∀ (s1:CO) (K:AV→CO→Prop),DL s.next s s1→(∀s2,DL s1.next s1 s2→K (.bool (P y)) s2)→WF E g (fs++([iv y]++cs)) K s1)
include hE hv hl hf
theorem NM{Q:Da→Prop}(x2:AV):∀ (r d:List Int)(S:CO)(x3 x6 x7:AV),l=d++r→(∀y∈d,P y=false)→DL s.next s S →
  (∀S' (y3 y5 y6 y7:AV),DL s.next s S'→l.any P=false→Cs 0 Q ⟨.exit 0,[v,.func g fs cs,x2,y3,iv (l.length:Int),y5,y6,y7],[],S'⟩)→(∀S' (i:Nat) (y3 y5 y6 y7:AV),DL s.next s S'→l.any P=true→Cs 0 Q ⟨.ret,[v,.func g fs cs,iv (i:Int),y3,iv (l.length:Int),y5,y6,y7],[],S'⟩) →
  WC E none (Ck.loop QT) (Cs 0 Q) [v,.func g fs cs,x2,x3,iv (l.length:Int),iv (d.length:Int),x6,x7] [] S:=by
 intro r
 induction r with
 | nil =>
  intro d S x3 x6 x7 hd hn ho hq1 hq2
  have:l=d:=by simpa using hd
  subst this
  refine WC.loop' ?_
  simp only[QT,ZB,A8l,A9a,Qa,Qb,QS]
  exact hq1 S _ _ _ _ ho (by rw[List.any_eq_false];intro y hy;simp[hn y hy])
 | cons y r ih =>
  intro d S x3 x6 x7 hd hn ho hq1 hq2
  refine WC.loop' ?_
  obtain⟨V,hV⟩:∃V,V=Ck.loop QT:=⟨_,rfl⟩
  rw[← hV]
  have hlt:((d.length:Int)<(l.length:Int)):=by rw[hd];simp;omega
  have hltn:d.length<l.length:=by omega
  have hat:l[d.length]? = some y:=by rw[hd];simp
  obtain⟨j,q0,cap,rfl,hj,hld⟩:=(hv.old ho).at hat
  have e1:=Cj (P:=prog) (cap:=cap) (i:=j) (o:=q0) underlying30 HC hltn
  have hadd:i64 ((d.length:Int)+1):=by unfold i64;omega
  simp only[QT,ZB,jx,jy,hlt,A9Z,Qa,Qb,QS,e1,Ee,hld,A8S,Wg]
  refine hf y (by rw[hd];simp) S _ ho fun s2 h2=>?_
  cases hP:P y with
  | true =>
   simp only[jz,Qb,QS]
   exact hq2 s2 d.length _ _ _ _ (ho.trans (h2.mono ho.1)) (by rw[hd];simp[hP])
  | false =>
   simp only[j8,Db _ _ _ _ hadd,Qb,QS]
   have:=ih (d++[y]) s2 (iv (d.length:Int)) (.bool true) (.bool false) (by rw[hd];simp) (fun z hz=>by rcases A8q.1 hz with h | h;exact hn z h;simp at h;rw[h];exact hP) (ho.trans (h2.mono ho.1)) hq1 hq2
   rw[← hV,show(d++[y]).length=d.length+1 from by simp]at this
   exact this
theorem Sq{K:AV→CO→Prop}(hK:∀s',DL s.next s s'→K (.bool (l.any P)) s'):WF E 82 [v,.func g fs cs] K s:=by
 refine hE.go A2P (by decide) rfl ?_
 simp only[A7m,zS,zT,Qa,Qb,QS]
 refine hE.go cU (by decide) rfl ?_
 have hlen:=hv.len
 simp only[A1I,Y9,ZA,hlen,Qa,Qb,QS]
 refine NM hE hv hl P hf _ l [] s _ _ _ rfl (fun y hy=>by cases hy) (DL.refl _ _) (fun S' y3 y5 y6 y7 ho ha=>?_) (fun S' i y3 y5 y6 y7 ho ha=>?_)
 ·rw[ha]at hK
  simp only[QS]
  rw[if_pos trivial]
  simp only[ZC,Qb,QS]
  exact hK S' ho
 ·rw[ha]at hK
  have hdi:decide ((0:Int)≤(i:Int))=true:=decide_eq_true (by omega)
  simp only[hdi,QS]
  exact hK S' ho
end
end
end Go.Proofs.YtoaaclpjkelofaaGreatDoor.Am
set_option linter.all false
namespace Go.Proofs.YtoaaclpjkelofaaGreatDoor.Am
open Go
noncomputable section
open Tryz
section
variable{E:Dw}{rnd:Option Nat}{Q:Da→Prop}{var:List AV}{marks:List Nat}{s:CO}
def IE(r:Ki)(A:List AV)(W:List Nat)(marks:List Nat)(s0:CO)(ret:Bool)(X:List AV)(M:List (List AV))(q:Da):Prop:=
 HU q.marks marks=true∧match ret with
  | true=>q.exit=.ret∧V4 A q.var=some X∧YC s0 q.st W=some M
  | false=>q.exit≠.ret∧LW r.id2 q.exit=true∧Po q.var A=true∧Np s0 q.st W=true
theorem gS{r:Ki}{body:Ck}{A X:List AV}{W:List Nat}{M:List (List AV)}{k:AV}{t:Bool}{n:Nat}{q:Da}(h:(FI E n).code rnd body (upd k (upd (.bool true) A r.jok) r.jk) marks s=some q)(hq:IE r A W marks s t X M q):
  Eg (FI E n) rnd r body A W marks s k=some (bif t then .ret X M else .go):=by
 unfold Eg
 rw[h]
 simp only[Option.bind_some,hq.1,CU,cond_true]
 have h2:=hq.2
 cases t with
 | true =>
  simp only at h2
  obtain⟨h3,h4,h5⟩:=h2
  rw[h3]
  simp only[h4,h5,Option.bind_some,cond_true]
 | false =>
  simp only at h2
  obtain⟨h3,h4,h5,h6⟩:=h2
  cases he:q.exit with
  | ret=>exact absurd he h3
  | normal=>rw[he]at h4;simp[h4,h5,h6]
  | exit i=>rw[he]at h4;simp[h4,h5,h6]
theorem SW{n m:Nat}(h:n≤m){r:Ki}{body:Ck}{A:List AV}{W:List Nat}{s:CO}{k:AV}{o:QF}(hr:Eg (FI E n) rnd r body A W marks s k=some o):Eg (FI E m) rnd r body A W marks s k=some o:=by
 unfold Eg at hr ⊢
 simp only[A8G]at hr ⊢
 obtain⟨q,h1,h2⟩:=hr
 exact⟨q,(JA E h).code h1,h2⟩
end
section
variable{E:Dw}{rnd:Option Nat}{Q:Da→Prop}{var:List AV}{marks:List Nat}{s:CO}
theorem bV{f:AV→Option QF}{ret:AV→Bool}{PX:List AV→Prop}{M:List (List AV)}(hmg:∀X Y,PX X→PX Y→∃Z,JM X Y=some Z∧PX Z)(hM:A0f M M=true):∀ {l:List (AV×AV)}{R:Option (List AV×List (List AV))},(∀e∈l,(ret e.1=true∧∃X,PX X∧f e.1=some (.ret X M))∨(ret e.1=false∧f e.1=some .go))→(R=none∨∃X,PX X∧R=some (X,M)) →
    ∃R',Ij f R l=some R'∧(R'=none∨∃X,PX X∧R'=some (X,M))∧(R'=none↔R=none∧l.any (fun e=>ret e.1)=false)
  | [],R,_,hR=>⟨R,rfl,hR,by simp⟩
  | e::l,R,h,hR=>by
    have ih:=fun R hR=>bV (l:=l) (R:=R) hmg hM (fun e he=>h e (A8J _ he)) hR
    unfold Ij
    rcases h e (A8M ..)with⟨h1,X,hX,h2⟩ | ⟨h1,h2⟩
    · rw[h2]
      simp only[Option.bind_some]
      rcases hR with rfl | ⟨Y,hY,rfl⟩
      · obtain⟨R',g1,g2,g3⟩:=ih (some (X,M)) (.inr ⟨X,hX,rfl⟩)
        refine⟨R',g1,g2,?_⟩
        rw[g3];simp[h1]
      · obtain ⟨Z, hZ, hPZ⟩ := hmg Y X hY hX
        obtain⟨R',g1,g2,g3⟩:=ih (some (Z,M)) (.inr ⟨Z,hPZ,rfl⟩)
        refine⟨R',?_,g2,by rw[g3];simp⟩
        simp only[hM,CU,cond_true,hZ,Option.bind_some]
        exact g1
    · rw[h2]
      simp only[Option.bind_some]
      obtain⟨R',g1,g2,g3⟩:=ih R hR
      refine⟨R',g1,g2,?_⟩
      rw[g3];simp[h1]
theorem WC.rangeMap2{r:Ki}{body:Ck}{m:AV}{es:List (AV×AV)}{J:List Nat}{A:List AV}{M:List (List AV)}{s0:CO}{PX:List AV→Prop}(ret:AV→Bool)(hr:r.rd s (Fz [] var r.ad)=some m)(he:P6 s m=some es)(hJ:Nt body=some J)
    (hA:RY (r.jok::r.jk::J) (upd (.ptr (some (s.next,0))) var r.jt)=some A) (hj:(IG (Hw A r.jt) (.ptr (some (s.next,0))) && IG (Hw (upd (.ptr (some (s.next,0))) var r.jt) r.jt) (.ptr (some (s.next,0))))=true)
    (hs0:fK (Mu (upd (.ptr (some (s.next,0))) var r.jt) r.res) (s.next+1) s.heap=some s0) (hmg:∀X Y,PX X→PX Y→∃Z,JM X Y=some Z∧PX Z) (hM:A0f M M=true)
    (hb:∀e∈es,WC E rnd body (fun q=>∃X,(ret e.1=true→PX X)∧IE r A (Mu (upd (.ptr (some (s.next,0))) var r.jt) r.res) marks s0 (ret e.1) X M q) (upd e.1 (upd (.bool true) A r.jok) r.jk) marks s0)
    (hq1:es.any (fun e=>ret e.1)=true→∃h',YR s.heap (Mu (upd (.ptr (some (s.next,0))) var r.jt) r.res) M=some h'∧∀X,PX X→Q ⟨.ret,X,marks,⟨s.next+1,h'⟩⟩)
    (hq2:es.any (fun e=>ret e.1)=false→Q ⟨.normal,upd (.bool false) A r.jok,marks,⟨s.next+1,s.heap⟩⟩):WC E rnd (.rangeMap r body) Q var marks s:=by
  have hn:∃n,∀e∈es,(ret e.1=true∧∃X,PX X∧Eg (FI E n) rnd r body A (Mu (upd (.ptr (some (s.next,0))) var r.jt) r.res) marks s0 e.1=some (.ret X M))∨(ret e.1=false∧Eg (FI E n) rnd r body A (Mu (upd (.ptr (some (s.next,0))) var r.jt) r.res) marks s0 e.1=some .go):=by
    clear he hq1 hq2
    induction es with
    | nil=>exact⟨0,fun e h=>by cases h⟩
    | cons e l ih =>
      obtain⟨n,h1⟩:=ih fun e he=>hb e (A8J _ he)
      obtain⟨k,q,h2,X,hPX,h3⟩:=hb e (A8M ..)
      refine⟨max n k,fun x hx=>?_⟩
      rcases A8I.1 hx with rfl | hx
      · have:=SW (Nat.le_max_right n k) (gS h2 h3)
        cases hr:ret x.1 with
        | true=>rw[hr]at this hPX;exact .inl ⟨rfl,X,hPX rfl,this⟩
        | false=>rw[hr]at this;exact .inr ⟨rfl,this⟩
      · rcases h1 x hx with ⟨g1, X, g2, g3⟩ | ⟨g1, g2⟩
        · exact .inl ⟨g1,X,g2,SW (A9N n k) g3⟩
        · exact .inr ⟨g1,SW (A9N n k) g2⟩
  obtain⟨n,hn⟩:=hn
  obtain⟨R',g1,g2,g3⟩:=bV hmg hM hn (.inl (rfl:(none:Option (List AV×List (List AV)))=none))
  cases ha:es.any (fun e=>ret e.1)with
  | true =>
    obtain⟨h',k1,k2⟩:=hq1 ha
    rcases g2 with rfl | ⟨X,hX,rfl⟩
    · have:=(g3.1 rfl).2;rw[ha]at this;cases this
    · refine⟨n+1,_,?_,k2 X hX⟩
      show FM (FI E n) rnd (.rangeMap r body) var marks s=_
      simp only[FM,eO,hr,he,Option.bind_some,Mn,hJ,hA,hj,CU,cond_true,hs0,g1,k1]
  | false =>
    have hR:R'=none:=g3.2 ⟨rfl,ha⟩
    subst hR
    refine⟨n+1,_,?_,hq2 ha⟩
    show FM (FI E n) rnd (.rangeMap r body) var marks s=_
    simp only[FM,eO,hr,he,Option.bind_some,Mn,hJ,hA,hj,CU,cond_true,hs0,g1]
def Mz(n k:Nat)(v:AV)(X:List AV):Prop:=X.length=n∧(∀x∈X,Dg x=true)∧X[k]? = some v
theorem SC:∀ (X Y:List AV),X.length=Y.length→(∀x∈X,Dg x=true)→(∀x∈Y,Dg x=true)→∃Z,JM X Y=some Z∧Z.length=X.length∧(∀x∈Z,Dg x=true)∧∀ (k:Nat)(v:AV),X[k]? = some v→Y[k]? = some v→Fx v v=true→Z[k]? = some v
 | [],[],_,_,_=>⟨[],rfl,rfl,(fun x hx=>by cases hx),fun k v h=>by simp at h⟩
 | a::X,b::Y,hl,hX,hY=>by
  obtain⟨Z,h1,h2,h3,h4⟩:=SC X Y (by simpa using hl) (fun x hx=>hX x (A8J _ hx)) (fun x hx=>hY x (A8J _ hx))
  have ha:=hX a A8M
  have hb:=hY b A8M
  cases hs:Fx a b with
  | true =>
   refine⟨a::Z,by simp only[JM,hs,cond_true,Option.bind_some,h1],by simp[h2],fun x hx=>(A8I.1 hx).elim (fun h=>h▸ha) (h3 x),fun k v=>?_⟩
   cases k with
   | zero=>intro g1 _ _;simpa using g1
   | succ k=>intro g1 g2 g3;simpa using h4 k v (by simpa using g1) (by simpa using g2) g3
  | false =>
   refine⟨.junk::Z,by simp only[JM,hs,cond_false,ha,hb,Bool.and_self,CU,cond_true,Option.bind_some,h1],by simp[h2],fun x hx=>(A8I.1 hx).elim (fun h=>h▸rfl) (h3 x),fun k v=>?_⟩
   cases k with
   | zero=>intro g1 g2 g3;simp at g1 g2;subst g1;subst g2;rw[hs]at g3;cases g3
   | succ k=>intro g1 g2 g3;simpa using h4 k v (by simpa using g1) (by simpa using g2) g3
theorem Mz.merge{n k:Nat}{v:AV}(hv:Fx v v=true){X Y:List AV}(hX:Mz n k v X)(hY:Mz n k v Y):∃Z,JM X Y=some Z∧Mz n k v Z:=by
 obtain⟨Z,h1,h2,h3,h4⟩:=SC X Y (hX.1.trans hY.1.symm) hX.2.1 hY.2.1
 exact⟨Z,h1,h2.trans hX.1,h3,h4 k v hX.2.2 hY.2.2 hv⟩
end
end
end Go.Proofs.YtoaaclpjkelofaaGreatDoor.Am
set_option linter.all false
set_option maxHeartbeats 1000000
set_option maxRecDepth 20000
namespace Go.Proofs.YtoaaclpjkelofaaGreatDoor.Am
open Go Go.Proofs
noncomputable section
open Tryz
def ET(F:List Fm)(kind:Int)(own:List Int)(x:Int):Bool:=
 decide ((CP F x).kind=4) && (decide ((CP F x).kids.headD 0∈own) || (decide ((CP F ((CP F x).kids.headD 0)).kind=kind) && !(CP F ((CP F x).kids.headD 0)).kids.any fun y=>!decide (y∈own)))
structure A0u(s:CO)(p b4 b6 b8 b9 m jf:Nat)(F:List Fm)(own:List Int)(all:Int):Prop where
 r4:DY (s.heap.get b4) 0=some (.ptr (some (p,0)))
 r8:DY (s.heap.get b8) 0=some (iv all)
 r9:DY (s.heap.get b9) 0=some (.map (some m))
 rm:Gw s 3 m=some (Cy own)
 rp:DY (s.heap.get p) 1=some (.slice (some (jf,0)) F.length none)
 rf:∀ (i:Nat) (f:Fm),F[i]? = some f→∃kv,DY (s.heap.get jf) (i * 13)=some (iv f.kind)∧DY (s.heap.get jf) (i * 13+5)=some kv∧Cl s kv f.kids∧f.kids.length≤1000000
 g6:s.heap.get b6=some (R 3 0 false [iv 0])
 lt:p<s.next∧b4<s.next∧b6<s.next∧b8<s.next∧b9<s.next∧m<s.next∧jf<s.next
theorem A0u.old{s s':CO}{p b4 b6 b8 b9 m jf:Nat}{F:List Fm}{own:List Int}{all:Int}(h:A0u s p b4 b6 b8 b9 m jf F own all)(o:DL s.next s s'):A0u s' p b4 b6 b8 b9 m jf F own all:=by
 obtain⟨r4,r8,r9,rm,rp,rf,g6,l1,l2,l3,l4,l5,l6,l7⟩:=h
 have:=o.1
 refine⟨by rw[o.2 _ l2];exact r4,by rw[o.2 _ l4];exact r8,by rw[o.2 _ l5];exact r9,by rw[oZ (o.2 _ l6)];exact rm,by rw[o.2 _ l1];exact rp,fun i f hi=>?_,by rw[o.2 _ l3];exact g6,by omega,by omega,by omega,by omega,by omega,by omega,by omega⟩
 obtain⟨kv,h1,h2,h3,h4⟩:=rf i f hi
 exact⟨kv,by rw[o.2 _ l7];exact h1,by rw[o.2 _ l7];exact h2,h3.old o,h4⟩
theorem EJ{x:AV}{l m:List AV}(h:Fx x x=true)(k:Po l m=true):Po (x::l) (x::m)=true:=by simp[Po,sE,h,k]
theorem IU{x:AV}{l m:List AV}(h:Dg x=true)(k:Po l m=true):Po (x::l) (.junk::m)=true:=by simp[Po,sE,h,k,Fx]
theorem YB:∀ (A X:List AV),A.length=X.length→(∀x∈X,Dg x=true)→∃Z,V4 A X=some Z∧Z.length=X.length∧(∀x∈Z,Dg x=true)∧∀ (k:Nat)(v:AV),A[k]? = some v→X[k]? = some v→Fx v v=true→Z[k]? = some v
 | [],[],_,_=>⟨[],rfl,rfl,(fun x hx=>by cases hx),fun k v h=>by simp at h⟩
 | a::A,x::X,hl,hX=>by
  obtain⟨Z,h1,h2,h3,h4⟩:=YB A X (by simpa using hl) (fun x hx=>hX x (A8J _ hx))
  have hx:=hX x A8M
  cases hs:(SZ x || Fx a x)with
  | true =>
   refine⟨x::Z,by simp only[V4,hs,cond_true,Option.bind_some,h1],by simp[h2],fun y hy=>(A8I.1 hy).elim (fun h=>h▸hx) (h3 y),fun k v=>?_⟩
   cases k with
   | zero=>intro _ g2 _;simpa using g2
   | succ k=>intro g1 g2 g3;simpa using h4 k v (by simpa using g1) (by simpa using g2) g3
  | false =>
   refine⟨.junk::Z,by simp only[V4,hs,cond_false,hx,CU,cond_true,Option.bind_some,h1],by simp[h2],fun y hy=>(A8I.1 hy).elim (fun h=>h▸rfl) (h3 y),fun k v=>?_⟩
   cases k with
   | zero=>intro g1 g2 g3;simp at g1 g2;subst g1;subst g2;simp only[g3,Bool.or_true]at hs;cases hs
   | succ k=>intro g1 g2 g3;simpa using h4 k v (by simpa using g1) (by simpa using g2) g3
theorem Il:∀l:List Nat,HU l l=true
 | []=>rfl
 | a::l=>by simp[HU,Il l]
section
variable{E:Dw}(hE:Cn E){s:CO}{p b4 b6 b8 b9 m jf:Nat}{F:List Fm}{own:List Int}{all:Int}(hR:A0u s p b4 b6 b8 b9 m jf F own all)(how:∀x∈own,0≤x∧x<F.length)(hkids:∀ (i:Nat)(f:Fm),F[i]? = some f→(∀k∈f.kids,0≤k∧k<i)∧(f.kind=4→∃k,f.kids=[k]))(hFl:F.length≤1000000)
  {v0 v1 v3 b5v b7v x10 x15 x16 x17 x18 x19 x20 x24 x25 x26:AV} {kind:Int}
  (hsj:∀x∈[v0,v1,iv kind,v3,.ptr (some (b4,0)),b5v,.ptr (some (b6,0)),b7v,.ptr (some (b8,0)),.ptr (some (b9,0)),x10,x15,x16,x17,x18,x19,x20,x24,x25,x26],Fx x x=true∧Dg x=true)
include hE hR how hkids hFl hsj
theorem fy{rnd:Option Nat}{marks:List Nat}{x:Int}(hx:x∈own):
    WC E rnd U8 (fun q=>∃X,(ET F kind own x=true→Mz 27 6 (.ptr (some (b6,0))) X)∧IE MT [v0,v1,iv kind,v3,.ptr (some (b4,0)),b5v,.ptr (some (b6,0)),b7v,.ptr (some (b8,0)),.ptr (some (b9,0)),x10,.junk,.junk,.junk,.junk,x15,x16,x17,x18,x19,x20,.junk,.junk,.junk,x24,x25,x26] [b6] marks s (ET F kind own x) X [[iv all]] q)
      [v0,v1,iv kind,v3,.ptr (some (b4,0)),b5v,.ptr (some (b6,0)),b7v,.ptr (some (b8,0)),.ptr (some (b9,0)),x10,iv x,.junk,.junk,.junk,x15,x16,x17,x18,x19,x20,.bool true,.junk,.junk,x24,x25,x26] marks s:=by
  obtain⟨r4,r8,r9,rm,rp,rf,g6,l1,l2,l3,l4,l5,l6,l7⟩:=id hR
  have hxr:=how x hx
  have hxF:=Gr hxr
  obtain⟨kv,f0,f5,hkv,hkl⟩:=rf _ _ hxF
  have e1:=Cj (P:=prog) (cap:=none) (i:=jf) (o:=0) underlying46 Ny (show x.toNat<F.length by omega)
  have hxn:((x.toNat:Nat):Int)=x:=by omega
  rw[hxn]at e1
  simp only[A9B,A8K,false_imp_iff,implies_true,A9T]at hsj
  obtain⟨⟨t0,u0⟩,⟨t1,u1⟩,⟨t2,u2⟩,⟨t3,u3⟩,⟨t4,u4⟩,⟨t5,u5⟩,⟨t6,u6⟩,⟨t7,u7⟩,⟨t8,u8⟩,⟨t9,u9⟩,⟨t10,u10⟩,⟨t15,u15⟩,⟨t16,u16⟩,⟨t17,u17⟩,⟨t18,u18⟩,⟨t19,u19⟩,⟨t20,u20⟩,⟨t24,u24⟩,⟨t25,u25⟩,⟨t26,u26⟩⟩:=hsj
  have hW0:∀s':CO,s'.heap.get b6=some (R 3 0 false [iv 0])→Np s s' [b6]=true:=fun s' h=>by
    simp only[Np,Hc,g6,h]
    rfl
  have hgo:∀ (ex:PB) (a11 a12 a13 a14 a21 a22 a23:AV) (s':CO),ET F kind own x=false→(ex=.normal∨ex=.exit 3)→DL s.next s s'→Dg a11=true→Dg a12=true→Dg a13=true→Dg a14=true→Dg a21=true→Dg a22=true→Dg a23=true →
      ∃X,(ET F kind own x=true→Mz 27 6 (.ptr (some (b6,0))) X)∧IE MT [v0,v1,iv kind,v3,.ptr (some (b4,0)),b5v,.ptr (some (b6,0)),b7v,.ptr (some (b8,0)),.ptr (some (b9,0)),x10,.junk,.junk,.junk,.junk,x15,x16,x17,x18,x19,x20,.junk,.junk,.junk,x24,x25,x26] [b6] marks s (ET F kind own x) X [[iv all]]
        ⟨ex,[v0,v1,iv kind,v3,.ptr (some (b4,0)),b5v,.ptr (some (b6,0)),b7v,.ptr (some (b8,0)),.ptr (some (b9,0)),x10,a11,a12,a13,a14,x15,x16,x17,x18,x19,x20,a21,a22,a23,x24,x25,x26],marks,s'⟩:=by
    intro ex a11 a12 a13 a14 a21 a22 a23 s' hc he ho w11 w12 w13 w14 w21 w22 w23
    refine⟨[],(fun h=>by rw[hc]at h;cases h),Il _,?_⟩
    rw[hc]
    refine⟨by rcases he with rfl | rfl<;>simp,by rcases he with rfl | rfl<;>rfl,?_,hW0 s' ((ho.2 b6 l3).trans g6)⟩
    exact EJ t0 (EJ t1 (EJ t2 (EJ t3 (EJ t4 (EJ t5 (EJ t6 (EJ t7 (EJ t8 (EJ t9 (EJ t10 (IU w11 (IU w12 (IU w13 (IU w14 (EJ t15 (EJ t16 (EJ t17 (EJ t18 (EJ t19 (EJ t20 (IU w21 (IU w22 (IU w23 (EJ t24 (EJ t25 (EJ t26 rfl))))))))))))))))))))))))))
  have hret:∀ (a11 a12 a13 a14 a21 a22 a23:AV) (s':CO),ET F kind own x=true→DL s.next s s'→Dg a11=true→Dg a12=true→Dg a13=true→Dg a14=true→Dg a21=true→Dg a22=true→Dg a23=true →
      ∃X,(ET F kind own x=true→Mz 27 6 (.ptr (some (b6,0))) X)∧IE MT [v0,v1,iv kind,v3,.ptr (some (b4,0)),b5v,.ptr (some (b6,0)),b7v,.ptr (some (b8,0)),.ptr (some (b9,0)),x10,.junk,.junk,.junk,.junk,x15,x16,x17,x18,x19,x20,.junk,.junk,.junk,x24,x25,x26] [b6] marks s (ET F kind own x) X [[iv all]]
        ⟨.ret,[v0,v1,iv kind,v3,.ptr (some (b4,0)),b5v,.ptr (some (b6,0)),b7v,.ptr (some (b8,0)),.ptr (some (b9,0)),x10,a11,a12,a13,a14,x15,x16,x17,x18,x19,x20,a21,a22,a23,x24,x25,x26],marks,setObj s' b6 (R 3 0 false [iv all])⟩:=by
    intro a11 a12 a13 a14 a21 a22 a23 s' hc ho w11 w12 w13 w14 w21 w22 w23
    obtain⟨Z,h1,h2,h3,h4⟩:=YB [v0,v1,iv kind,v3,.ptr (some (b4,0)),b5v,.ptr (some (b6,0)),b7v,.ptr (some (b8,0)),.ptr (some (b9,0)),x10,.junk,.junk,.junk,.junk,x15,x16,x17,x18,x19,x20,.junk,.junk,.junk,x24,x25,x26]
      [v0,v1,iv kind,v3,.ptr (some (b4,0)),b5v,.ptr (some (b6,0)),b7v,.ptr (some (b8,0)),.ptr (some (b9,0)),x10,a11,a12,a13,a14,x15,x16,x17,x18,x19,x20,a21,a22,a23,x24,x25,x26] rfl
      (by simp only[A9B,A8K,false_imp_iff,implies_true,A9T];exact⟨u0,u1,u2,u3,u4,u5,u6,u7,u8,u9,u10,w11,w12,w13,w14,u15,u16,u17,u18,u19,u20,w21,w22,w23,u24,u25,u26⟩)
    refine⟨Z,fun _=>⟨h2,h3,h4 6 _ rfl rfl t6⟩,Il _,?_⟩
    rw[hc]
    refine⟨rfl,h1,?_⟩
    simp only[YC,Hc,g6,Co]
    rfl
  refine HB ?_
  simp only[U8,lU,r4,Dt,GS,Lq,rp,e1,JH,J0,Ee,A8f,f0,Qa,Qb,QS,Wg]
  by_cases k4:(CP F x).kind=4
  · have d4 : decide ((CP   F x).kind ≠ 4) = false := by simp [k4]
    obtain⟨hkr,hk1⟩:=hkids _ _ hxF
    obtain⟨kk,hkk⟩:=hk1 k4
    have hkb:=hkr kk (by rw[hkk];simp)
    rw[hkk]at hkv
    obtain⟨j,q0,cap,rfl,hj,hld⟩:=hkv.at (k:=0) (x:=kk) rfl
    have e2:CQ prog 30 (.slice (some (j,q0)) 1 cap) (.int .i64 0)=some (.ptr (some (j,q0+0 * 1))):=Cj (P:=prog) underlying30 HC (show 0<1 by omega)
    have hkF:0≤kk∧kk<F.length:=by omega
    have hkG:=Gr hkF
    obtain⟨kv2,f20,f25,hkv2,hkl2⟩:=rf _ _ hkG
    have e3:=Cj (P:=prog) (cap:=none) (i:=jf) (o:=0) underlying46 Ny (show kk.toNat<F.length by omega)
    have hkn:((kk.toNat:Nat):Int)=kk:=by omega
    rw[hkn]at e3
    have hcl:ET F kind own x=(decide (kk∈own) || (decide ((CP F kk).kind=kind) && !(CP F kk).kids.any fun y=>!decide (y∈own))):=by
      unfold ET;rw[hkk];simp[k4]
    simp only[d4,lV,r4,Dt,GS,Lq,rp,e1,RH,IT,f5,A8P,A8b,e2,Ee,hld,Qb,QS,Wg]
    generalize hs:s.next=b
    have hs0:s=ext s []:=(Ca s).symm
    have ho1:DL s.next s (ext s [R 128 0 false [.func 81 [] [.ptr (some (b9,0))]]]):=Ci
    generalize hse:ext s [R 128 0 false [.func 81 [] [.ptr (some (b9,0))]]]=se at ho1
    have g13:se.heap.get (nid b 0)=some (R 128 0 false [.func 81 [] [.ptr (some (b9,0))]]):=by rw[← hse,CR hs (by simp)];rfl
    have hnx:se.next=b+1:=by rw[← hse,Ce,hs,CN];rfl
    obtain⟨q4,q8,q9,qm,qp,qf,qg6,qlt⟩:=id (hR.old ho1)
    obtain⟨kv3,p20,p25,hkv3,hkl3⟩:=qf _ _ hkG
    have hk64:i64 kk:=by unfold i64;omega
    have hth:=fun(K:AV→CO→Prop)=>SA (K:=K) hE q9 qm qlt.2.2.2.2.1 qlt.2.2.2.2.2.1 hk64
    have hnc:AV.nilFunc.cells=[.nilFunc]:=rfl
    have hle:decide (1≤[AV.nilFunc].length)=true:=rfl
    rw[hs0]
    simp only[lW,hnc,List.set_cons_zero,A3c,A3m,F4,hs,List.take,List.drop,hse,Qb,QS,Wg]
    simp only[lX,q4,Dt,GS,Lq,qp,e3,RH,IT,p25,Qb,QS,Wg]
    simp only[lY,iZ,g13,Lc,List.getElem?_cons_zero,Qb,QS,Wg]
    refine hth _ fun s2 ho2=>?_
    have ho3:DL s.next s s2:=ho1.trans (ho2.mono ho1.1)
    have hR2:=hR.old ho3
    obtain⟨y4,y8,y9,ym,yp,yf,yg6,ylt⟩:=id hR2
    have y13:s2.heap.get (nid b 0)=some (R 128 0 false [.func 81 [] [.ptr (some (b9,0))]]):=by rw[ho2.2 _ (by rw[hnx,CN];omega)];exact g13
    have hskv:Dg kv3=true:=by rcases hkv3 with⟨_,rfl⟩ | ⟨_,_,_,rfl,_⟩<;>rfl
    have hend:∀ (s3:CO) (a21 a22 a23:AV),DL s.next s s3→ET F kind own x=true→Dg a21=true→Dg a22=true→Dg a23=true →
        Qb E ZJ (fun v s'=>∃X,(ET F kind own x=true→Mz 27 6 (.ptr (some (b6,0))) X)∧IE MT [v0,v1,iv kind,v3,.ptr (some (b4,0)),b5v,.ptr (some (b6,0)),b7v,.ptr (some (b8,0)),.ptr (some (b9,0)),x10,.junk,.junk,.junk,.junk,x15,x16,x17,x18,x19,x20,.junk,.junk,.junk,x24,x25,x26] [b6] marks s (ET F kind own x) X [[iv all]] ⟨.ret,v,marks,s'⟩) []
          [v0,v1,iv kind,v3,.ptr (some (b4,0)),b5v,.ptr (some (b6,0)),b7v,.ptr (some (b8,0)),.ptr (some (b9,0)),x10,iv x,iv kk,.ptr (some (nid b 0,0)),kv3,x15,x16,x17,x18,x19,x20,a21,a22,a23,x24,x25,x26] s3:=by
      intro s3 a21 a22 a23 ho hc w21 w22 w23
      obtain⟨z4,z8,z9,zm,zp,zf,zg6,zlt⟩:=id (hR.old ho)
      simp only[ZJ,Ee,HC,z8,zg6,Qb,QS,Wg]
      exact hret _ _ _ _ _ _ _ s3 hc ho rfl rfl rfl hskv w21 w22 w23
    cases hin:decide (kk∈own)with
    | true =>
      have hc:ET F kind own x=true:=by rw[hcl,hin];rfl
      simp only[QS]
      exact hend s2 _ _ _ ho3 hc rfl rfl rfl
    | false =>
      obtain⟨kv4,w20,w25,_,_⟩:=yf _ _ hkG
      simp only[y4,Dt,GS,Lq,yp,e3,JH,J0,Ee,A8f,w20,QS,Wg]
      cases hkd:decide ((CP F kk).kind=kind)with
      | false =>
        have hc:ET F kind own x=false:=by rw[hcl,hin,hkd];rfl
        simp only[QS]
        exact hgo .normal _ _ _ _ _ _ _ s2 hc (.inl rfl) ho3 rfl rfl rfl hskv rfl rfl rfl
      | true =>
        have hcf:=fun(K:AV→CO→Prop)=>Sq (K:=K) hE (hkv3.old ho2) hkl3 (g:=83) (fs:=[]) (cs:=[.ptr (some (nid b 0,0))]) (fun y=>!decide (y∈own))
          (fun y hy s4 K4 h4 hk4=>by
            obtain⟨z4,z8,z9,zm,zp,zf,zg6,zlt⟩:=id (hR2.old h4)
            have hyr:=(hkids _ _ hkG).1 y hy
            exact oW hE z9 zm zlt.2.2.2.2.1 zlt.2.2.2.2.2.1 (b13:=nid b 0) (by rw[h4.2 _ (by have:=ho2.1;rw[hnx]at this;rw[CN];omega),y13];rfl) (by unfold i64;omega) hk4)
        simp only[QS]
        refine hcf _ fun s5 ho5=>?_
        have ho6:DL s.next s s5:=ho3.trans (ho5.mono ho3.1)
        simp only[QS]
        cases han:((CP F kk).kids.any fun y=>!decide (y∈own))with
        | true =>
          have hc:ET F kind own x=false:=by rw[hcl,hin,hkd,han];rfl
          simp only[Bool.not_true,QS]
          exact hgo .normal _ _ _ _ _ _ _ s5 hc (.inl rfl) ho6 rfl rfl rfl hskv rfl rfl rfl
        | false =>
          have hc:ET F kind own x=true:=by rw[hcl,hin,hkd,han];rfl
          simp only[Bool.not_false,QS]
          exact hend s5 _ _ _ ho6 hc rfl rfl rfl
  · have d4 : decide ((CP   F x).kind ≠ 4) = true := by simp [k4]
    have hcl:ET F kind own x=false:=by unfold ET;simp[k4]
    simp only[d4,QS]
    exact hgo (.exit 3) _ _ _ _ _ _ _ s hcl (.inr rfl) (DL.refl _ _) rfl rfl rfl rfl rfl rfl rfl
end
end
end Go.Proofs.YtoaaclpjkelofaaGreatDoor.Am
set_option linter.all false
set_option maxRecDepth 20000
namespace Go.Proofs.YtoaaclpjkelofaaGreatDoor.Am
open Go Go.Proofs
noncomputable section
open Tryz
theorem sg{h:CT Cg}{n b:Nat}{e sz:Nat}{cs:List AV}(hb:h.get b=some (R e sz false cs)):∃s0,fK [b] n h=some s0∧s0.next=n∧s0.heap.get b=h.get b∧∀j,j≠b→s0.heap.get j=(h.get j).bind MX:=by
 refine⟨⟨n,(h.mapO MX).set b (R e sz false cs)⟩,?_,rfl,?_,fun j hj=>?_⟩
 ·unfold fK
  simp only[qG,hb]
  rfl
 ·show((h.mapO MX).set b _).get b=_
  rw[CT.get_set,if_pos rfl,hb]
 ·show((h.mapO MX).set b _).get j=_
  rw[CT.get_set,if_neg hj]
  exact CT.get_mapO _ _ _
theorem II(o:Option Cg)(k:Nat):DY (o.bind MX) k=DY o k:=by
 cases o with
 | none=>rfl
 | some x=>cases x<;>rfl
theorem aA(o:Option Cg)(k n:Nat):EV (o.bind MX) k n=EV o k n:=by
 cases o with
 | none=>rfl
 | some x=>cases x<;>rfl
theorem Sv{o:Option Cg}{k n:Nat}{cs:List AV}(h:EV o k n=some cs):EV (o.bind MX) k n=some cs:=(aA o k n).trans h
theorem nw{s s0:CO}{b:Nat}{v:AV}{l:List Int}(h:Cl s v l)(hn:s.next≤s0.next)(hb:∀j,EQ v=some j→j≠b)(hf:∀j,j≠b→s0.heap.get j=(s.heap.get j).bind MX):Cl s0 v l:=by
 rcases h with h | ⟨j,q,cap,rfl,h2,h3⟩
 ·exact .inl h
 ·exact .inr ⟨j,q,cap,rfl,by omega,by rw[hf j (hb j rfl)];exact Sv h3⟩
theorem A0u.of{s s0:CO}{p:Nat}{L:LG}{O:List Nat}(hL:DG s p L O)(h0:0<L.F.length){b4 b6 b8 b9 m:Nat}{own:List Int}{all:Int}(g4:s.heap.get b4=some (R 24 0 false [.ptr (some (p,0))]))(g6:s.heap.get b6=some (R 3 0 false [iv 0]))(g8:s.heap.get b8=some (R 3 0 false [iv all]))
    (g9:s.heap.get b9=some (R 57 0 false [.map (some m)])) (gm:s.heap.get m=some (.map 3 (Cy own))) (hlt:b4<s.next∧b6<s.next∧b8<s.next∧b9<s.next∧m<s.next) (hO:b6 ∉ O) (hne:b6≠b4∧b6≠b8∧b6≠b9∧b6≠m)
    (hn:s0.next=s.next+1) (h6:s0.heap.get b6=s.heap.get b6) (hf:∀j,j≠b6→s0.heap.get j=(s.heap.get j).bind MX):∃jf,A0u s0 p b4 b6 b8 b9 m jf L.F own all:=by
  obtain⟨q,fv,mf,av,mk,X,OS,OB,OA,e⟩:=hL.ex
  obtain⟨m1,m2,m3,m4,m5,m6,m7⟩:=e.parts
  have hFl:L.F[0]? = some L.F[0]:=A8O h0
  obtain⟨x,jf,r,hx,hfx,hfv,hjO,hr,_,_⟩:=e.form hFl
  subst hfv
  obtain⟨l4,l6,l8,l9,lm⟩:=hlt
  obtain⟨n4,n8,n9,nm⟩:=hne
  have hpne:p≠b6:=fun h=>hO (h▸m1)
  have hjne:jf≠b6:=fun h=>hO (h▸hjO)
  refine⟨jf,?_,?_,?_,?_,?_,?_,by rw[h6];exact g6,?_⟩
  · rw[hf b4 (Ne.symm n4),II,g4];rfl
  · rw[hf b8 (Ne.symm n8),II,g8];rfl
  · rw[hf b9 (Ne.symm n9),II,g9];rfl
  · unfold Gw;rw[hf m (Ne.symm nm),gm];rfl
  · rw[hf p hpne,II,e.obj];rfl
  · intro i f hi
    obtain⟨y,j2,r2,hy,hfy,hfv2,hj2,hr2,_,hld⟩:=e.form hi
    injection hfv2 with hfv2
    injection hfv2 with hfv2
    injection hfv2 with hfv2 _
    subst hfv2
    obtain⟨kv,c0,c1,c2,c3,c4,hy6,hkd,hks,_⟩:=hfy.six
    rw[hy6]at hld
    refine⟨kv,?_,?_,nw hkd (by omega) (fun j hj h=>hO (by rw[← h];exact m7 y (A8a hy) j (hks j hj))) hf,(hL.ok i f hi).kl⟩
    · rw[hf jf hjne,II,hr2];exact hld 0 (by omega)
    · rw[hf jf hjne,II,hr2];exact hld 5 (by omega)
  · have := e.plt
    have:=e.lt jf hjO
    omega
end
end Go.Proofs.YtoaaclpjkelofaaGreatDoor.Am
set_option linter.all false
set_option maxHeartbeats 1000000
set_option maxRecDepth 20000
namespace Go.Proofs.YtoaaclpjkelofaaGreatDoor.Am
open Go Go.Proofs
noncomputable section
open Tryz
def In(F:List Fm)(z:Int):List Int→Int
 | []=>z
 | k::l=>In F (z+(CP F k).size) l
def Ea(F:List Fm)(l:List Int):List (List Nat):=l.map fun k=>(CP F k).text
theorem P8{F:List Fm}(h:∀k,1≤(CP F k).size∧(CP F k).size≤4097):∀ (l:List Int)(z:Int),z+l.length≤In F z l∧In F z l≤z+4097 * l.length
 | [],z=>by simp[In]
 | k::l,z=>by
  have h1:=h k
  have h2:=P8 h l (z+(CP F k).size)
  simp only[In,A8P]
  omega
theorem DG.szs{s:CO}{p:Nat}{L:LG}{O:List Nat}(hL:DG s p L O)(h0:0<L.F.length)(k:Int):(1≤(CP L.F k).size∧(CP L.F k).size≤4097)∧((CP L.F k).text.length:Int)≤200000 * (CP L.F k).size:=by
 obtain⟨i,_,hi,_⟩:=XM (x:=k) h0
 have:=hL.ok i _ hi
 exact⟨this.sz,this.tx⟩
section
variable{E:Dw}(hE:Cn E){s:CO}{p:Nat}{L:LG}{O:List Nat}(hL:DG s p L O)(h0:0<L.F.length){l:List Int}{v:AV}(hv:Cl s v l)(hl:l.length≤1000)(hr:∀k∈l,0≤k∧k<L.F.length)
  {b15 b4 b5:Nat} {name:List Nat} (h4:s.heap.get b4=some (R 24 0 false [.ptr (some (p,0))])) (hlt:b4<s.next)
include hE hL h0 hv hl hr h4 hlt
theorem Z9{Q:Da→Prop}{marks:List Nat}(x0 x2 x4:AV):∀ (r d:List Int)(S:CO)(tv:AV)(OB:List Nat)(x6 x10:AV),l=d++r→DL s.next s S→HD 9 1 S tv (Ea L.F d).length (Ej (Ea L.F d)) OB→(∀j∈OB,s.next≤j) →
    (∀S' (tv':AV) OB' (y6 y10:AV),DL s.next s S'→HD 9 1 S' tv' (Ea L.F l).length (Ej (Ea L.F l)) OB'→(∀j∈OB',s.next≤j)→Cs 0 Q ⟨.exit 0,[x0,.ptr (some (b4,0)),x2,iv (In L.F 1 l),x4,tv',y6,v,iv (l.length:Int),iv (l.length:Int),y10],marks,S'⟩) →
    WC E none (Ck.loop W1) (Cs 0 Q) [x0,.ptr (some (b4,0)),x2,iv (In L.F 1 d),x4,tv,x6,v,iv (l.length:Int),iv (d.length:Int),x10] marks S:=by
  intro r
  induction r with
  | nil =>
    intro d S tv OB x6 x10 hd ho hb hO hq
    have:l=d:=by simpa using hd
    subst this
    refine WC.loop' ?_
    simp only[W1,mO,A8l,A9a,Qa,Qb,QS]
    exact hq S _ _ _ _ ho hb hO
  | cons k r ih =>
    intro d S tv OB x6 x10 hd ho hb hO hq
    refine WC.loop' ?_
    obtain⟨V,hV⟩:∃V,V=Ck.loop W1:=⟨_,rfl⟩
    rw[← hV]
    have hlt2:((d.length:Int)<(l.length:Int)):=by rw[hd];simp;omega
    have hltn:d.length<l.length:=by omega
    have hat:l[d.length]? = some k:=by rw[hd];simp
    obtain⟨j,q0,cap,rfl,hj,hld⟩:=(hv.old ho).at hat
    have e1:=Cj (P:=prog) (cap:=cap) (i:=j) (o:=q0) underlying30 HC hltn
    have hadd:i64 ((d.length:Int)+1):=by unfold i64;omega
    have hkr:=hr k (by rw[hd];simp)
    have hLS:=hL.old ho
    obtain⟨q,mf,av,mk,jf,i,rr,y,OS,hobj,hp,hjf,hil,hix,hrr,hy,_,hldf,hok,_,_⟩:=LY hE hLS (x:=k) h0
    obtain⟨kv,c0,c1,c2,c3,c4,hy6,_⟩:=hy.six
    rw[hy6]at hldf
    rw[Gh hkr]at hix
    have e2:=Cj (P:=prog) (cap:=none) (i:=jf) (o:=0) underlying46 Ny hil
    rw[hix]at e2
    have l11:DY (S.heap.get jf) (i * 13+11)=some (iv (CP L.F k).size):=by rw[hrr];exact hldf 11 (by omega)
    have l12:DY (S.heap.get jf) (i * 13+12)=some (.str (CP L.F k).text):=by rw[hrr];exact hldf 12 (by omega)
    have g4:=(ho.2 b4 hlt).trans h4
    have hz:=P8 (fun k=>(hL.szs h0 k).1) d 1
    have hzk:=(hL.szs h0 k).1
    have hdl:d.length≤1000:=by omega
    have hzs:i64 (In L.F 1 d+(CP L.F k).size):=by unfold i64;omega
    obtain⟨v2,s2,OB2,happ,hb2,hn2,hf2,hO2⟩:=Ud hb (CP L.F k).text (by simp[Ea];omega)
    generalize hs:S.next=b at happ hn2 hf2 hO2 hj
    have hS0:S=ext S []:=(Ca S).symm
    have hnx:newObj S (R 9 1 false [.str (CP L.F k).text])=ext S [R 9 1 false [.str (CP L.F k).text]]:=by
      have:=H7 S [] (R 9 1 false [.str (CP L.F k).text])
      rw[Ca]at this;exact this
    have hpb:p<b:=by omega
    have hjb:jf<b:=by omega
    have h4b:b4<b:=by have:=ho.1;omega
    have n0:nid b 0=b:=LH b
    rw[hnx]at happ
    rw[hS0]
    simp only[W1,mO,za,zb,zc,zd,hlt2,A9Z,Qa,Qb,QS,e1,hs,Ee,hj,hld,A8S,g4,h4b,hpb,hjb,Dt,GS,Lq,hobj,e2,VQ,VR,qZ,l11,l12,LP,n0,happ,Db _ _ _ _ hadd,Db _ _ _ _ hzs,Wg]
    have es:In L.F 1 (d++[k])=In L.F 1 d+(CP L.F k).size:=by
      have:∀ (l:List Int) (z:Int),In L.F z (l++[k])=In L.F z l+(CP L.F k).size:=fun l=>by
        induction l with
        | nil=>intro z;rfl
        | cons a l ih=>intro z;exact ih _
      exact this d 1
    have et:Ea L.F (d++[k])=Ea L.F d++[(CP L.F k).text]:=by simp[Ea]
    have hsn:=ho.1
    have ho2:DL s.next s s2:=⟨by omega,fun j' hj'=>by rw[hf2 j' (by omega) (fun hm=>by have:=hO j' hm;omega)];exact ho.2 j' hj'⟩
    have:=ih (d++[k]) s2 v2 OB2 (iv k) (.bool true) (by rw[hd];simp) ho2 (by rw[et];exact hb2) (fun j' hj'=>(hO2 j' hj').elim (hO j') (fun h=>by omega)) hq
    rw[← hV,es,show(d++[k]).length=d.length+1 from by simp]at this
    exact this
end
end
end Go.Proofs.YtoaaclpjkelofaaGreatDoor.Am
set_option linter.all false
set_option maxRecDepth 20000
namespace Go.Proofs.YtoaaclpjkelofaaGreatDoor.Am
open Go Go.Proofs
noncomputable section
open Tryz
theorem HD.refill{e:TypeId}{s:CO}{v:AV}{n:Nat}{cs:List AV}{O:List Nat}(h:HD e 1 s v n cs O)(h0:0<n){ys:List AV}(hl:ys.length=n)(hc:C3 ys=true):
    ∃i s',v=.slice (some (i,0)) n none∧EC s i 0 ys=some s'∧s'.next=s.next∧EV (s'.heap.get i) 0 n=some ys∧i<s.next∧i∈O∧(∀j,j ∉ O→s'.heap.get j=s.heap.get j):=by
  rcases h with⟨_,rfl,_⟩ | ⟨i,p,rfl,hg,rfl⟩
  · omega
  rcases hg.ex with⟨_,h2⟩ | ⟨_,_,hi,hp,r,hr,hh,_,hm,_,hpar,_⟩
  · omega
  have hrn:r.n=n:=by rw[hh.1,hg.len,A8S]
  have hrow:rowAt s i=some r:=by rw[Hc,hr];rfl
  cases ys with
  | nil=>simp at hl;omega
  | cons y ys =>
    refine⟨i,setObj (Dm s i r) i (.row { r with c:=r.c.fill 0 (y::ys),par:=none }),rfl,?_,?_,?_,hi,by simp,fun j hj=>?_⟩
    · unfold EC
      rw[hrow]
      show CU (FL r.mode && Nat.ble (0+(y::ys).length) r.n && C3 (y::ys)) _=_
      rw[hm,hc,EA (by omega)];rfl
    · rw[Cp]
      unfold Dm
      cases hq:r.par with
      | none=>rfl
      | some q=>show(bif Nat.beq q i then s else Eo s q).next=s.next;cases Nat.beq q i<;>rfl
    · rw[Co]
      show CU (Nat.ble (0+n) r.n) ((r.c.fill 0 (y::ys)).take 0 n)=_
      rw[EA (by omega),← hl]
      show(r.c.fill 0 (y::ys)).take 0 (y::ys).length=_
      exact dw (y::ys) 0 fun k u hk=>by rw[CT.get_fill,if_pos ⟨A8T _,by rcases A8N k (y::ys).length with h' | h';omega;rw[A8W h']at hk;cases hk⟩,A8V,Nat.sub_zero];exact hk
    · simp only[A8I,Option.mem_toList,not_or]at hj
      rw[CS _ hj.1]
      unfold Dm
      cases hq:r.par with
      | none=>rfl
      | some q =>
        show(bif Nat.beq q i then s else Eo s q).heap.get j=_
        cases Nat.beq q i
        · exact(Dq s q j).trans (if_neg fun h=>hj.2 (by rw[← hpar,hq,h]))
        · rfl
theorem Pk(l:List (List Nat)):Im (Ej l)=some l:=by
 induction l with
 | nil=>rfl
 | cons x l ih=>show(Im (Ej l)).bind _=_;rw[ih];rfl
theorem hU(l:List (List Nat)):C3 (Ej l)=true:=by
 induction l with
 | nil=>rfl
 | cons x l ih=>exact ih
theorem Vp(xs:List AV)(s:CO):Ig 85 xs s=KQ s xs:=by
 have h2:Ig 85 xs s=(match KQ s xs with | some p=>some p | none=>none):=rfl
 rw[h2]
 cases KQ s xs<;>rfl
theorem gt{E:Dw}(hE:Cn E){s:CO}{tv:AV}{T:List (List Nat)}{OB:List Nat}(hb:HD 9 1 s tv T.length (Ej T) OB)(h0:0<T.length)(hT:T.length≤1000000)(hj:(Fa (Gj T) [32]).length≤1000000000000){K1:AV→CO→Prop}
    (h1:∀s',s'.next=s.next→(∀j,j ∉ OB→s'.heap.get j=s.heap.get j)→(∀K:AV→CO→Prop,K (.str (Fa (Gj T) [32])) s'→WF E 86 [tv,.str [32]] K s')→K1 (.tuple []) s'):WF E 85 [tv] K1 s:=by
  have hpl:(Gj T).length=T.length:=(HV T).length_eq
  obtain⟨i,s',rfl,hst,hn,hld,hi,hiO,hf⟩:=hb.refill h0 (ys:=Ej (Gj T)) (by simp[Ej,hpl]) (hU _)
  have hcs:Di s i 0 T.length=some (Ej T):=by
    rcases hb.row with⟨_,hz0,_⟩ | ⟨j,r,hj1,hjO,hjr,hh⟩
    · omega
    · injection hj1 with hj1
      injection hj1 with hj1
      injection hj1 with hj1 _
      subst hj1
      rw[Et,hjr,H6 hh (by simp[Ej]),A8p,A8m (by simp[Ej])]
  have hso:KQ s [.slice (some (i,0)) T.length none]=some (.tuple [],s'):=by
    have:KQ s [.slice (some (i,0)) T.length none]=(Di s i 0 T.length).bind fun cs=>(Im cs).bind fun xs=>CU (Nat.blt 0 T.length && Nat.ble T.length 1000000) (JI ((Gj xs).map AV.str) fun ys=>(EC s i 0 ys).bind fun s'=>some (.tuple [],s')):=by
      cases hTl:T.length with
      | zero=>omega
      | succ n=>rfl
    rw[this,hcs,Option.bind_some,Pk,Option.bind_some,OK h0,EA hT,Ez]
    show CU true ((EC s i 0 (Ej (Gj T))).bind _)=_
    rw[hst];rfl
  refine WF.native (hE.tab _ _ _ _ (by rw[Vp];exact hso)) (h1 s' hn hf fun K hK=>?_)
  refine WF.native (hE.tab _ _ _ (.str (Fa (Gj T) [32]),s') ?_) hK
  rw[Oj]
  show(Di s' i 0 T.length).bind _=_
  rw[Et,hld,Option.bind_some,Pk,Option.bind_some,Ez,EA hj,EA hT]
  rfl
end
end Go.Proofs.YtoaaclpjkelofaaGreatDoor.Am
set_option linter.all false
set_option maxHeartbeats 1000000
set_option maxRecDepth 20000
namespace Go.Proofs.YtoaaclpjkelofaaGreatDoor.Am
open Go Go.Proofs
noncomputable section
open Tryz
def T0(F:List Fm)(name:List Nat)(l:List Int):List Nat:=(40::name++[32])++Fa (Gj (Ea F l)) [32]++[41]
theorem NS:∀ (T:List (List Nat)),(El [32] T).length=(T.map List.length).sum+T.length
 | []=>rfl
 | x::l=>by
  show([32]++x++El [32] l).length=_
  simp only[A8X,A8P,A8b,NS l,A8U,A9L]
  omega
theorem fU(T:List (List Nat)):(Fa T [32]).length≤(T.map List.length).sum+T.length:=by
 cases T with
 | nil=>exact A8T _
 | cons x l =>
  show(x++El [32] l).length≤_
  simp only[A8X,NS,A8U,A9L,A8P]
  omega
theorem pS{a b:List Nat}(h:a.Perm b):a.sum=b.sum:=by
 induction h with
 | nil=>rfl
 | cons x _ ih=>simp[ih]
 | swap x y l=>simp;omega
 | trans _ _ h1 h2=>exact h1.trans h2
theorem Uf{F:List Fm}(h:∀k,((CP F k).text.length:Int)≤200000 * (CP F k).size):∀ (l:List Int)(z:Int),((((Ea F l).map List.length).sum:Nat):Int)≤200000 * (In F z l - z)
 | [],z=>by simp[Ea,In]
 | k::l,z=>by
  have h1:=h k
  have h2:=Uf h l (z+(CP F k).size)
  simp only[Ea,A8U,A9L,In]at *
  omega
theorem XY{F:List Fm}(h:∀k,((CP F k).text.length:Int)≤200000 * (CP F k).size)(l:List Int):((Fa (Gj (Ea F l)) [32]).length:Int)≤200000 * (In F 1 l - 1)+l.length:=by
 have h1:=fU (Gj (Ea F l))
 have h2:=pS ((HV (Ea F l)).map List.length)
 have h3:=Uf h l 1
 have h4:=(HV (Ea F l)).length_eq
 have h5:(Ea F l).length=l.length:=by simp[Ea]
 omega
theorem WY{x y:List Nat}(h:x.length+y.length≤1152921504606846976):Ch prog .add 9 (.str x) (.str y)=some (.str (x++y)):=by
 show CU (Nat.ble (x.length+y.length) 1152921504606846976) _=_
 rw[EA h];rfl
theorem sS(l:List Nat):IG (.str l) (.str l)=true:=Sj l
section
variable{E:Dw}(hE:Cn E){s:CO}{p:Nat}{L:LG}{O:List Nat}(hL:DG s p L O)(h0:0<L.F.length){l:List Int}{v:AV}(hv:Cl s v l)(hl:l.length≤1000)(hl0:0<l.length)(hr:∀k∈l,0≤k∧k<L.F.length)
  {b15 b4 b5:Nat} {name:List Nat} (h4:s.heap.get b4=some (R 24 0 false [.ptr (some (p,0))])) (h15:s.heap.get b15=some (R 30 0 false [v])) (h5:s.heap.get b5=some (R 9 0 false [.str name])) (hlt:b4<s.next∧b15<s.next∧b5<s.next) (hnm:name.length≤100)
include hE hL h0 hv hl hl0 hr h4 h15 h5 hlt hnm
theorem oQ{K:AV→CO→Prop}(hK:∀s',DL s.next s s'→K (.tuple [iv (In L.F 1 l),.str (T0 L.F name l)]) s'):WF E 84 [.ptr (some (b15,0)),.ptr (some (b4,0)),.ptr (some (b5,0))] K s:=by
 refine hE.go A2R (by decide) rfl ?_
 have hlen:=hv.len
 simp only[A7o,zW,zX,zY,zZ,h15,IT,hlen,Qa,Qb,QS,Wg]
 refine Z9 hE hL h0 hv hl hr h4 hlt.1 _ _ _ l [] s (.slice none 0 (some 0)) [] _ _ rfl (DL.refl _ _) (HD.nil _ _ _) (fun j hj=>by cases hj) (fun S tv OB y6 y10 ho hb hO=>?_)
 simp only[QS]
 rw[if_pos trivial]
 have hj:=XY (fun k=>(hL.szs h0 k).2) l
 have hz:=P8 (fun k=>(hL.szs h0 k).1) l 1
 simp only[mM,Qb,QS]
 refine gt hE hb (by simp[Ea];omega) (by simp[Ea];omega) (by omega) fun s2 hn2 hf2 hjn=>?_
 have ho2:DL s.next s s2:=⟨by have:=ho.1;omega,fun j hj'=>by rw[hf2 j (fun hm=>by have:=hO j hm;omega)];exact ho.2 j hj'⟩
 have g5:=(ho2.2 b5 hlt.2.2).trans h5
 have a1:Ch prog .add 9 (.str [40]) (.str name)=some (.str (40::name)):=GY (by simp;omega)
 have a2:Ch prog .add 9 (.str (40::name)) (.str [32])=some (.str (40::name++[32])):=GY (by simp;omega)
 have a3:Ch prog .add 9 (.str (40::name++[32])) (.str (Fa (Gj (Ea L.F l)) [32]))=some (.str (40::name++[32]++Fa (Gj (Ea L.F l)) [32])):=WY (by simp only[A8X,A8P,A8b];omega)
 have a4:Ch prog .add 9 (.str (40::name++[32]++Fa (Gj (Ea L.F l)) [32])) (.str [41])=some (.str (T0 L.F name l)):=WY (by simp only[A8X,A8P,A8b];omega)
 generalize hX:40::name++[32]=X1 at a2 a3 a4
 simp only[mN,g5,qZ,a1,a2,Qb,QS,Wg]
 refine hjn _ ?_
 refine⟨⟨Hh (by simp only[QS];rw[Ha qZ,g5];rfl) (by simp only[QS];exact sS _),trivial⟩,?_⟩
 simp only[a3,QS]
 simp only[a4,QS]
 exact hK s2 ho2
end
end
end Go.Proofs.YtoaaclpjkelofaaGreatDoor.Am
set_option linter.all false
set_option maxRecDepth 20000
namespace Go.Proofs.YtoaaclpjkelofaaGreatDoor.Am
open Go Go.Proofs
noncomputable section
open Tryz
def Ex (F:List Fm) (kind:Int) (name:List Nat) (l:List Int):Fm:=⟨kind,0,0,0,Mf l,l,none,In F 1 l,T0 F name l⟩
def EH (F:List Fm) (kind:Int) (name:List Nat) (fl:List Int):Mk:=
 let nn:Int:=if kind=2 then 0 else 1
 let all:Int:=if kind=2 then 1 else 0
 match Jv nn all [] (EY F kind fl)with
 | none=>.old all
 | some own=>if own.any (ET F kind own)then .old all else match DS own with
  | []=>.old nn
  | [x]=>.old x
  | l=>.put (Ex F kind name l)
theorem XZ(ks:List Int):PP (Cy ks)=some ks:=by
 induction ks with
 | nil=>rfl
 | cons k ks ih =>
  show(PP (Cy ks)).bind _=_
  rw[ih];rfl
theorem Xp(s:CO)(i:Nat):Ig 32 [.func 74 [] [.ptr (some (i,0))]] s=Gz 74 3 3 s [.func 74 [] [.ptr (some (i,0))]]:=by
 have h2:Ig 32 [.func 74 [] [.ptr (some (i,0))]] s=(match Gz 74 3 3 s [.func 74 [] [.ptr (some (i,0))]]with | some p=>some p | none=>none):=rfl
 rw[h2]
 cases Gz 74 3 3 s [.func 74 [] [.ptr (some (i,0))]]<;>rfl
theorem IB{E:Dw}(hE:Cn E){s:CO}{i m:Nat}{ks:List Int}{K:AV→CO→Prop}(hi:s.heap.get i=some (R 57 0 false [.map (some m)]))(hm:s.heap.get m=some (.map 3 (Cy ks)))(hl:ks.length≤1000000)
    (hK:∀v s',DL s.next s s'→Cl s' v (DS ks)→(∀j,EQ v=some j→s.next≤j)→K v s'):WF E 32 [.func 74 [] [.ptr (some (i,0))]] K s:=by
  have hso:Gz 74 3 3 s [.func 74 [] [.ptr (some (i,0))]]=Ln 3 ks s:=by
    have hr:rowAt s i=some { elem:=57,sz:=0,n:=1,c:=Vw [.map (some m)],spare:=false,mode:=.own,par:=none,bytes:=true }:=by
      rw[Hc,hi];rfl
    have hl1:FQ s i 0=some (.map (some m)):=by rw[Lb,hi];exact Lc _ _ _ _ _
    simp only[Gz,hr,hl1,Option.bind_some,I4,hm,Hk,XZ]
    rfl
  cases ks with
  | nil =>
    refine WF.native (hE.tab _ _ _ (.slice none 0 (some 0),s) (by rw[Xp,hso];rfl)) ?_
    exact hK _ _ (DL.refl _ _) (.inl ⟨rfl,rfl⟩) fun j hj=>by cases hj
  | cons k ks =>
    have hb:Nat.ble (k::ks).length 1000000=true:=EA hl
    refine WF.native (hE.tab _ _ _ (.slice (some (s.next,0)) (k::ks).length none,newObj s (R 3 1 true (Dv (DS (k::ks))))) ?_) ?_
    · rw[Xp,hso]
      show CU (Nat.ble (k::ks).length 1000000) _=_
      rw[hb,EB]
      have h2:(Dv (DS (k::ks))).length=(k::ks).length:=by rw[FD,Tv]
      rw[← h2]
      rfl
    · refine hK _ _ (DL.new  _ _) (.inr ⟨s.next, 0, none, by rw [Tv],        A8k              _, ?_⟩) fun j hj => by injection hj with hj; omega
      rw[DH,if_pos rfl,D3 (by rw[FD,A8V];exact A8H _),A8p,A8m (by rw[FD];exact A8H _)]
def HH(F:List Fm):Prop:=(ER true).key∈DP F∧IH F (ER true).key=0∧(ER false).key∈DP F∧IH F (ER false).key=1
theorem HH.push{F:List Fm}(h:HH F)(b:Bool):DN F (ER b)=F∧(IH F (ER b).key:Int)=if b then 0 else 1:=by
 cases b with
 | true=>exact⟨IL h.1,by rw[h.2.1];rfl⟩
 | false=>exact⟨IL h.2.2.1,by rw[h.2.2.2];rfl⟩
section
variable{E:Dw}(hE:Cn E){s:CO}{p:Nat}{L:LG}{O:List Nat}(hL:DG s p L O)(hsm:L.F.length<1000000)(hSm:L.S.length≤1000000)(h2:HH L.F)
include hE hL hsm hSm h2
theorem Ug{b:Bool}{K:AV→CO→Prop}(hK:∀s' O',DG s' p L O'→Eb O s s'→DR O O' s→K (iv (if b then 0 else 1)) s'):WF E 21 [.ptr (some (p,0)),.bool b] K s:=by
 obtain⟨e1,e2⟩:=h2.push b
 refine HA hE hL hsm hSm fun s' O' g1 g2 g3=>?_
 rw[e1]at g1 ⊢
 rw[e2]
 exact hK s' O' g1 g2 g3
end
end
end Go.Proofs.YtoaaclpjkelofaaGreatDoor.Am
set_option linter.all false
namespace Go.Proofs.YtoaaclpjkelofaaGreatDoor.Am
open Go Go.Proofs
noncomputable section
open Tryz
theorem pW(F:List Fm)(f:Fm):F <+: DN F f:=by
 unfold DN
 split
 ·exact A8h _
 ·exact List.prefix_append _ _
theorem Mk.pre(F:List Fm)(m:Mk):F <+: m.fs F:=by
 cases m with
 | put f=>exact pW F f
 | old n=>exact A8h _
theorem NU{F F':List Fm}(h:F <+: F'){k:Mx}(hk:k∈DP F):k∈DP F':=by
 obtain⟨G,rfl⟩:=h
 unfold DP
 rw[A8r]
 exact A8q.2 (.inl hk)
theorem Vg{F F':List Fm}(h:F <+: F'){k:Mx}(hk:k∈DP F):IH F' k=IH F k:=by
 obtain⟨G,rfl⟩:=h
 unfold IH
 unfold DP at hk ⊢
 rw[A8r,A9J,if_pos hk]
theorem GM{F F':List Fm}(h:F <+: F'):F.length≤F'.length:=h.length_le
theorem Gs{F F':List Fm}(h:F <+: F'){x:Int}(hx:0≤x∧x<F.length):CP F' x=CP F x:=by
 have hl:=GM h
 have h1:=Gr hx
 have h2:=Gr (F:=F') (x:=x) ⟨hx.1,by omega⟩
 obtain⟨G,rfl⟩:=h
 rw[A8d (by omega),h1]at h2
 injection h2 with h2
 exact h2.symm
theorem Mk.stay{F F2:List Fm}{m:Mk}(h:m.fs F <+: F2):m.fs F2=F2∧m.num F2=m.num F:=by
 cases m with
 | old n=>exact⟨rfl,rfl⟩
 | put f =>
  have hk:f.key∈DP F2:=NU h HR
  refine⟨IL hk,?_⟩
  show(IH (DN F2 f) f.key:Int)=(IH (DN F f) f.key:Int)
  rw[IL hk,Vg h HR];rfl
structure Av(F:List Fm)(f:Fm)(n:Int):Prop where
 mem:f.key∈DP F
 num:n=(IH F f.key:Int)
theorem Av.pre{F F':List Fm}{f:Fm}{n:Int}(h:Av F f n)(k:F <+: F'):Av F' f n:=⟨NU k h.mem,by rw[Vg k h.mem];exact h.num⟩
theorem Av.lt{F:List Fm}{f:Fm}{n:Int}(h:Av F f n):0≤n∧n<F.length:=by
 have:=Ve h.mem
 have:=h.num
 omega
theorem Av.of(F:List Fm)(f:Fm):Av (DN F f) f (IH (DN F f) f.key:Int):=⟨HR,rfl⟩
theorem Vf{F:List Fm}{k:Mx}(h:k∈DP F):(CP F (IH F k:Int)).key=k:=by
 have hl:=Ve h
 have h1:=Gr (F:=F) (x:=(IH F k:Int)) ⟨by omega,by omega⟩
 have h2:(DP F)[IH F k]? = some k:=by
  unfold IH
  rw[A8O (A9Q h)]
  congr 1
  exact List.getElem_idxOf _
 unfold DP at h2
 rw[A8j]at h2
 have h3:((IH F k:Int)).toNat=IH F k:=by omega
 rw[h3]at h1
 rw[h1]at h2
 simpa using h2
theorem Av.key{F:List Fm}{f:Fm}{n:Int}(h:Av F f n):(CP F n).key=f.key:=by
 rw[h.num];exact Vf h.mem
theorem Av.kind{F:List Fm}{f:Fm}{n:Int}(h:Av F f n):(CP F n).kind=f.kind:=congrArg (·.1) h.key
theorem Av.ne{F:List Fm}{f g:Fm}{n m:Int}(h:Av F f n)(k:Av F g m)(e:f.key≠g.key):n≠m:=fun hn=>e (by rw[← h.key,← k.key,hn])
theorem Av.eq{F:List Fm}{f g:Fm}{n m:Int}(h:Av F f n)(k:Av F g m)(e:f.key=g.key):n=m:=by
 rw[h.num,k.num,e]
theorem Lg{F F':List Fm}(h:F <+: F'){x:Int}(hx:0≤x∧x<F.length):Gi F' x=Gi F x:=by
 unfold Gi Sx
 rw[Gs h hx]
structure Nv(F:List Fm)(x n:Int):Prop where
 rg:0≤x∧x<F.length
 fs:(Gi F x).fs F=F
 num:n=(Gi F x).num F
theorem Nv.of{F:List Fm}{x:Int}(hx:0≤x∧x<F.length):Nv ((Gi F x).fs F) x ((Gi F x).num F):=by
 have hp:=Mk.pre F (Gi F x)
 have h:=Mk.stay (A8h ((Gi F x).fs F))
 have hl:=GM hp
 rw[← Lg hp hx]at h
 refine⟨⟨hx.1,by omega⟩,?_,?_⟩
 ·rw[Lg hp hx]at h ⊢;exact h.1
 ·rw[Lg hp hx]at h ⊢;exact h.2.symm
theorem Nv.pre{F F':List Fm}{x n:Int}(h:Nv F x n)(k:F <+: F'):Nv F' x n:=by
 have hl:=GM k
 have:=h.rg
 have h1:=Lg k h.rg
 have h2:=Mk.stay (m:=Gi F x) (F:=F) (F2:=F') (by rw[h.fs];exact k)
 exact⟨⟨by omega,by omega⟩,by rw[h1];exact h2.1,by rw[h1,h2.2];exact h.num⟩
theorem Nv.eq{F:List Fm}{x n m:Int}(h:Nv F x n)(k:Nv F x m):n=m:=by rw[h.num,k.num]
theorem Nv.av{F:List Fm}{x n:Int}(h:Nv F x n)(h0:(CP F x).kind≠0)(h1:(CP F x).kind≠1)(h4:(CP F x).kind≠4):Av F (Sx F x) n:=by
 have hm:=UI h0 h1 h4
 have hf:=h.fs
 have hn:=h.num
 rw[hm]at hf hn
 have hf':DN F (Sx F x)=F:=hf
 have hn':n=(IH (DN F (Sx F x)) (Sx F x).key:Int):=hn
 have hmem:(Sx F x).key∈DP F:=by have:=HR (F:=F) (f:=Sx F x);rw[hf']at this;exact this
 rw[hf']at hn'
 exact⟨hmem,hn'⟩
def F3(F:List Fm):Prop:=∀ (i:Nat)(f:Fm),F[i]? = some f→∀k∈f.kids,0≤k∧k<i
theorem F3.at{F:List Fm}(h:F3 F){x:Int}(hx:0≤x∧x<F.length):∀k∈(CP F x).kids,0≤k∧k<F.length:=fun k hk=>by
 have:=h _ _ (Gr hx) k hk
 omega
theorem pM{F F':List Fm}(h:F <+: F'){kind x:Int}(hx:0≤x∧x<F.length):Mj F' kind x=Mj F kind x:=by
 unfold Mj;rw[Gs h hx]
theorem Ti{F F':List Fm}(h:F <+: F'){kind:Int}:∀ {l:List Int},(∀x∈l,0≤x∧x<F.length)→EY F' kind l=EY F kind l
 | [],_=>rfl
 | x::l,hl=>by
  have hx:=hl x A8M
  have hlen:=GM h
  unfold EY
  rw[Gh hx,Gh (n:=F'.length) ⟨hx.1,by omega⟩,pM h hx,Ti h fun y hy=>hl y (A8J _ hy)]
theorem RN{F:List Fm}(hk:F3 F){kind:Int}:∀ {l:List Int},(∀x∈l,0≤x∧x<F.length)→∀y∈EY F kind l,0≤y∧y<F.length
 | [],_,y,hy=>by cases hy
 | x::l,hl,y,hy=>by
  have hx:=hl x A8M
  unfold EY at hy
  rw[Gh hx]at hy
  rcases A8q.1 hy with hy | hy
  ·unfold Mj at hy
   split at hy
   ·exact hk.at hx y hy
   ·simp at hy;rw[hy];exact hx
  ·exact RN hk (fun z hz=>hl z (A8J _ hz)) y hy
theorem NB{nn all:Int}:∀ {l own res:List Int},Jv nn all own l=some res→∀y∈res,y∈own∨y∈l
  | [],own,res,h,y,hy=>by
    simp only[Jv,A9b]at h
    exact .inl (h▸hy)
  | x::l,own,res,h,y,hy=>by
    unfold Jv at h
    split at h
    · cases h
    · rcases NB       h y hy with h1 | h1
      · split at h1
        · exact .inl h1
        · exact(EU.1 h1).imp id fun e=>by simp[e]
      · exact .inr (A8J _ h1)
theorem fM{l:List Int}:l=[]∨l.headD 0∈l:=by
 cases l with
 | nil=>exact .inl rfl
 | cons a l=>exact .inr (by simp)
theorem TV{F F':List Fm}(h:F <+: F')(h0:0<F.length)(hk:F3 F){kind:Int}{own:List Int}{x:Int}(hx:0≤x∧x<F.length):ET F' kind own x=ET F kind own x:=by
 have hh:0≤(CP F x).kids.headD 0∧(CP F x).kids.headD 0<F.length:=by
  rcases fM (l:=(CP F x).kids)with e | e
  ·rw[e];show(0:Int)≤0∧(0:Int)<F.length;omega
  ·exact hk.at hx _ e
 unfold ET
 rw[Gs h hx,Gs h hh]
theorem Yj{F F':List Fm}(h:F <+: F'):∀ {l:List Int}{z:Int},(∀x∈l,0≤x∧x<F.length)→In F' z l=In F z l
 | [],z,_=>rfl
 | x::l,z,hl=>by
  unfold In
  rw[Gs h (hl x A8M),Yj h fun y hy=>hl y (A8J _ hy)]
theorem az{F F':List Fm}(h:F <+: F'){l:List Int}(hl:∀x∈l,0≤x∧x<F.length):Ea F' l=Ea F l:=by
 unfold Ea
 exact List.map_congr_left fun x hx=>by rw[Gs h (hl x hx)]
theorem fo{F F':List Fm}(h:F <+: F'){kind:Int}{name:List Nat}{l:List Int}(hl:∀x∈l,0≤x∧x<F.length):Ex F' kind name l=Ex F kind name l:=by
 unfold Ex T0
 rw[Yj h hl,az h hl]
theorem E0{l:List Int}{x:Int}:x∈DS l↔x∈l:=(EM l).mem_iff
theorem R6{F F':List Fm}(h:F <+: F')(h0:0<F.length)(hk:F3 F){kind:Int}{name:List Nat}{fl:List Int}(hl:∀x∈fl,0≤x∧x<F.length):EH F' kind name fl=EH F kind name fl:=by
 unfold EH
 rw[Ti h hl]
 have hr:=RN hk (kind:=kind) hl
 generalize EY F kind fl=G at hr ⊢
 simp only
 cases hc:Jv (if kind=2 then 0 else 1) (if kind=2 then 1 else 0) [] G with
 | none=>rfl
 | some own =>
  have ho:∀x∈own,0≤x∧x<F.length:=fun x hx=>(NB hc x hx).elim (fun h=>by cases h) (hr x)
  have he:own.any (ET F' kind own)=own.any (ET F kind own):=by
   rw[A9e,List.any_eq_true,List.any_eq_true]
   constructor
   ·rintro⟨x,hx,e⟩;exact⟨x,hx,by rw[← TV h h0 hk (ho x hx)];exact e⟩
   ·rintro⟨x,hx,e⟩;exact⟨x,hx,by rw[TV h h0 hk (ho x hx)];exact e⟩
  simp only[he]
  have hs:∀x∈DS own,0≤x∧x<F.length:=fun x hx=>ho x (E0.1 hx)
  generalize DS own=s at hs
  match s,hs with
  | [],_=>rfl
  | [_],_=>rfl
  | a::b::l,hs=>simp only[fo h hs]
theorem cX(u:Nat):1≤(Go.Lib.decDigits u).length:=by
 rw[Go.Lib.decDigits]
 split<;>simp
theorem sH:∀ (a b:Nat),Go.Lib.decDigits a=Go.Lib.decDigits b→a=b:=by
  intro a
  induction a using Nat.strongRecOn with
  | ind a ih =>
    intro b h
    have hu:∀x y:Nat,x<10→y<10→UInt8.ofNat (48+x)=UInt8.ofNat (48+y)→x=y:=by
      intro x y hx hy e
      have:=congrArg UInt8.toNat e
      simp only[UInt8.toNat_ofNat']at this
      omega
    rw[Go.Lib.decDigits.eq_1 a,Go.Lib.decDigits.eq_1 b]at h
    by_cases ha:a<10
    · by_cases hb : b < 10
      · rw[dif_pos ha,dif_pos hb]at h
        injection h with h _
        exact hu a b ha hb h
      · rw[dif_pos ha,dif_neg hb]at h
        have h1:=congrArg List.length h
        have h2:=cX (b / 10)
        simp only[A8X,A8P,A8b]at h1
        omega
    · by_cases hb : b < 10
      · rw[dif_neg ha,dif_pos hb]at h
        have h1:=congrArg List.length h
        have h2:=cX (a / 10)
        simp only[A8X,A8P,A8b]at h1
        omega
      · rw[dif_neg ha,dif_neg hb]at h
        obtain⟨h1,h2⟩:=List.append_inj' h rfl
        injection h2 with h2 _
        have:=ih (a / 10) (by omega) (b / 10) h1
        have:=hu _ _ (Nat.mod_lt _ (by omega)) (Nat.mod_lt _ (by omega)) h2
        omega
theorem fS{a b:Int}(ha:0≤a)(hb:0≤b)(h:Gt a=Gt b):a=b:=by
 unfold Gt at h
 have h2:Go.Lib.itoa a=Go.Lib.itoa b:=(List.map_inj_right (fun x y e=>UInt8.toNat_inj.1 e)).1 h
 unfold Go.Lib.itoa at h2
 rw[if_neg (by omega),if_neg (by omega)]at h2
 have:=sH _ _ h2
 omega
theorem pK{a b:Int}(ha:0≤a)(hb:0≤b)(h:Mf [a]=Mf [b]):a=b:=by
 have e:∀x,Mf [x]=Gt x++[32]:=fun x=>by simp[Mf,Gx]
 rw[e,e]at h
 exact fS ha hb (List.append_inj' h rfl).1
def Ko(F:List Fm):Prop:=∀f∈F,f.kind=4→f.rest=Mf f.kids
theorem Ko.push{F:List Fm}(h:Ko F){f:Fm}(hf:f.kind=4→f.rest=Mf f.kids):Ko (DN F f):=by
  unfold DN
  split
  · exact h
  · intro g hg hk
    rcases A8q.1 hg with hg | hg
    · exact h g hg hk
    · simp at hg
      subst hg
      rw[W8,JV]
      exact hf (by rw[NC]at hk;exact hk)
def WS(F:List Fm):Prop:=∀f∈F,f.kind=4→∃k,f.kids=[k]
theorem VT{F:List Fm}{x:Int}(hx:0≤x∧x<F.length):CP F x∈F:=A8a (Gr hx)
theorem Nv.kids{F:List Fm}(hk:F3 F)(hr:Ko F)(hn:WS F){x n:Int}(h:Nv F x n)(h0:(CP F x).kind≠0)(h1:(CP F x).kind≠1)(h4:(CP F x).kind≠4):(CP F n).kind=4∧(CP F n).kids=[x]:=by
 have hv:=h.av h0 h1 h4
 have hlt:=hv.lt
 have hkey:=hv.key
 have hk4:(CP F n).kind=4:=hv.kind
 have hrest:(CP F n).rest=Mf [x]:=congrArg (·.2.2.2.2) hkey
 obtain⟨k,hkk⟩:=hn _ (VT hlt) hk4
 have h2:=hr _ (VT hlt) hk4
 rw[hrest,hkk]at h2
 have hk0:=hk.at hlt k (by rw[hkk];simp)
 have:=pK h.rg.1 hk0.1 h2
 exact⟨hk4,by rw[hkk,this]⟩
theorem J1(F:List Fm)(kind:Int):∀ (a b:List Int),EY F kind (a++b)=EY F kind a++EY F kind b
 | [],b=>rfl
 | x::a,b=>by simp only[A8e,EY,J1 F kind a b,A8n]
theorem TW(all nn:Int)(hne:nn≠all):∀ (a b own:List Int),Jv nn all own (a++nn::b)=Jv nn all own (a++b)
 | [],b,own=>by simp only[A8i];rw[Jv,if_neg hne,if_pos rfl]
 | x::a,b,own=>by simp only[A8e,Jv,TW all nn hne a b]
theorem HH.rg{F:List Fm}(h:HH F):2≤F.length:=by
 have:=Ve h.2.2.1
 rw[h.2.2.2]at this
 exact this
theorem HH.one{F:List Fm}(h:HH F):(CP F 1).kind=1:=by
 have:=Vf h.2.2.1
 rw[h.2.2.2]at this
 exact congrArg (·.1) this
theorem HH.zero{F:List Fm}(h:HH F):(CP F 0).kind=0:=by
 have:=Vf h.1
 rw[h.2.1]at this
 exact congrArg (·.1) this
theorem HH.pre{F F':List Fm}(h:HH F)(k:F <+: F'):HH F':=⟨NU k h.1,by rw[Vg k h.1];exact h.2.1,NU k h.2.2.1,by rw[Vg k h.2.2.1];exact h.2.2.2⟩
theorem tP{F:List Fm}(h2:HH F){nm:List Nat}(a b:List Int):EH F 3 nm (a++1::b)=EH F 3 nm (a++b):=by
 have hr:=h2.rg
 have e:EY F 3 (1::b)=1::EY F 3 b:=by
  have e1:Mj F 3 (N8 F.length 1)=[1]:=by
   rw[Gh (by omega)]
   unfold Mj
   rw[h2.one,if_neg (by omega)]
  show Mj F 3 (N8 F.length 1)++EY F 3 b=_
  rw[e1]
  rfl
 unfold EH
 rw[J1,J1,e]
 simp only[show ¬ ((3:Int)=2)from by omega,if_false,TW (0:Int) 1 (by omega)]
theorem Ng{F:List Fm}{x:Int}(hx:0≤x∧x<F.length)(h:(CP F x).kind≠3):Mj F 3 (N8 F.length x)=[x]:=by
 rw[Gh hx]
 unfold Mj
 rw[if_neg h]
theorem A3S{F:List Fm}{nm:List Nat}{a:Int}(ha:0≤a∧a<F.length)(k0:a≠0)(k1:a≠1)(k3:(CP F a).kind≠3)(k4:(CP F a).kind≠4):EH F 3 nm [a]=.old a:=by
 have e:EY F 3 [a]=[a]:=by unfold EY;rw[Ng ha k3];rfl
 have hc:ET F 3 [a] a=false:=by unfold ET;simp[k4]
 unfold EH
 rw[e]
 simp only[show ¬ ((3:Int)=2)from by omega,if_false,Jv,if_neg k0,if_neg k1,FO,A8K,A8i,List.any_cons,List.any_nil,hc,Bool.or_false,Bool.false_eq_true,DS,XS]
theorem pL{F:List Fm}{nm:List Nat}{a b:Int}(ha:0≤a∧a<F.length)(hb:0≤b∧b<F.length)(a0:a≠0)(a1:a≠1)(b0:b≠0)(b1:b≠1)(a3:(CP F a).kind≠3)(b3:(CP F b).kind≠3)(b4:(CP F b).kind≠4)(hab:a≠b)
  (hn:(CP F a).kind=4→∃h,(CP F a).kids=[h]∧h≠a∧h≠b∧(CP F h).kind≠3):EH F 3 nm [a,b]=.put (Ex F 3 nm (DS [a,b])):=by
 have e:EY F 3 [a,b]=[a,b]:=by unfold EY;rw[Ng ha a3];unfold EY;rw[Ng hb b3];rfl
 have hca:ET F 3 [a,b] a=false:=by
  unfold ET
  by_cases k4:(CP F a).kind=4
  ·obtain⟨h,h1,h2,h3,h5⟩:=hn k4
   rw[h1]
   simp[h2,h3,h5]
  ·simp[k4]
 have hcb:ET F 3 [a,b] b=false:=by unfold ET;simp[b4]
 have hcol:Jv 1 0 [] [a,b]=some [a,b]:=by
  simp only[Jv,if_neg a0,if_neg a1,if_neg b0,if_neg b1,FO,A8K,if_false,A8i,A8I,Ne.symm hab,A9V,A8e]
 have hany:[a,b].any (ET F 3 [a,b])=false:=by simp[hca,hcb]
 unfold EH
 rw[e]
 simp only[show ¬ ((3:Int)=2)from by omega,if_false,hcol,hany,Bool.false_eq_true]
 have hl:(DS [a,b]).length=2:=(EM [a,b]).length_eq
 match hs:DS [a,b],hl with
 | [x,y],_=>rfl
theorem X2{F:List Fm}{nm:List Nat}{l:List Int}(h:(Mk.put (Ex F 3 nm l)).fs F=F):(CP F ((Mk.put (Ex F 3 nm l)).num F)).kind=3:=by
 have h':DN F (Ex F 3 nm l)=F:=h
 have hm:(Ex F 3 nm l).key∈DP F:=by have:=HR (F:=F) (f:=Ex F 3 nm l);rw[h']at this;exact this
 have:(Mk.put (Ex F 3 nm l)).num F=(IH F (Ex F 3 nm l).key:Int):=by show(IH (DN F (Ex F 3 nm l)) _:Int)=_;rw[h']
 rw[this]
 exact congrArg (·.1) (Vf hm)
end
end Go.Proofs.YtoaaclpjkelofaaGreatDoor.Am
set_option linter.all false
set_option maxHeartbeats 1000000
set_option maxRecDepth 20000
namespace Go.Proofs.YtoaaclpjkelofaaGreatDoor.Am
open Go Go.Proofs
noncomputable section
open Tryz
def Tf (F:List Fm) (kind:Int) (name:List Nat) (nn:Int) (l:List Int):Mk:=match l with
 | []=>.old nn
 | [x]=>.old x
 | l=>.put (Ex F kind name l)
section
variable{E:Dw}(hE:Cn E){S:CO}{p:Nat}{L:LG}{O:List Nat}(hL:DG S p L O)(hsm:L.F.length<1000000)(hSm:L.S.length≤1000000)(h0:0<L.F.length)(hg:Fp S O)
  {b4 b5 b6 b7 b9 m mk:Nat} {own:List Int} {nn kind:Int} {name:List Nat} (g4:S.heap.get b4=some (R 24 0 false [.ptr (some (p,0))])) (g5:S.heap.get b5=some (R 9 0 false [.str name])) (g6:S.heap.get b6=some (R 3 0 false [iv 0]))
  (g7:S.heap.get b7=some (R 3 0 false [iv nn])) (g9:S.heap.get b9=some (R 57 0 false [.map (some m)])) (gm:S.heap.get m=some (.map 3 (Cy own))) (gk:S.heap.get mk=some .mark)
  (hlt:b4<S.next∧b5<S.next∧b6<S.next∧b7<S.next∧b9<S.next∧m<S.next∧mk<S.next) (hO:b4 ∉ O∧b6 ∉ O∧mk ∉ O) (hne:b6≠b4∧b6≠mk∧b4≠mk) (hnm:name.length≤100) (hkind:kind=2∨kind=3)
  (hnd:own.Nodup) (hlen:own.length≤1000) (hr:∀x∈own,0≤x∧x<L.F.length) {K:AV→CO→Prop}
  (hK:∀s' O',DG s' p ⟨L.S,(Tf L.F kind name nn (DS own)).fs L.F,L.A,L.q⟩ O'→Eb (b6::mk::O) S s'→DR O O' S→K (iv ((Tf L.F kind name nn (DS own)).num L.F)) s')
include hE hL hsm hSm h0 hg g4 g5 g6 g7 g9 gm gk hlt hO hne hnm hkind hnd hlen hr hK
theorem ft(v0 v1 v3 b8v x10 x11 x12 x13 x14 x15 x16 x17 x18 x19 x20 x21 x22 x23 x24 x25 x26:AV):
    Qb E U9 (fun v s'=>Qb E VA (fun v s'=>Qb E OM (fun v s'=>KU (Hw v 25)
        (fun x x_5 x_6=>Qb E VB (fun v s'=>Jj (EL s' x_5) fun s'=>Jj (Dj prog s' v [(CX.var 6,some 3)]) fun l=>K (DO l) s') [] x x_6)
        (fun x x_5 x_6=>Qb E QY (fun v s'=>KU (Hw v 26)
            (fun x x_7 x_8=>Qb E VC (fun v s'=>Jj (EL s' x_7) fun s'=>Jj (Dj prog s' v [(CX.var 6,some 3)]) fun l=>K (DO l) s') [] x x_8)
            (fun x x_7 x_8=>Qb E VD (fun v s'=>Jj (EL s' x_7) fun s'=>Jj (Dj prog s' v [(CX.var 6,some 3)]) fun l=>K (DO l) s') [] x x_8) v x_5 s') [] x x_6) v [mk] s') [] v s') [] v s') []
      [v0,v1,iv kind,v3,.ptr (some (b4,0)),.ptr (some (b5,0)),.ptr (some (b6,0)),.ptr (some (b7,0)),b8v,.ptr (some (b9,0)),x10,x11,x12,x13,x14,x15,x16,x17,x18,x19,x20,x21,x22,x23,x24,x25,x26] S:=by
  generalize hs:S.next=b
  have hs0:S=ext S []:=(Ca S).symm
  obtain⟨l4,l5,l6,l7,l9,lm,lk⟩:=hlt
  rw[hs]at l4 l5 l6 l7 l9 lm lk
  have oe:∀ (os:List Cg) (j:Nat),j<b→(ext S os).heap.get j=S.heap.get j:=fun os j hj=>Cm (by omega)
  rw[hs0]
  simp only[U9,Pn,oe _ _ l9,g9,Qb,QS,Wg]
  refine hE.go mU (by decide) rfl ?_
  simp only[A6M,lL,lM,hs,Qa,Qb,QS,Wg]
  have gi:(ext S [R 57 0 false [.map (some m)]]).heap.get (nid b 0)=some (R 57 0 false [.map (some m)]):=by rw[CR hs (by simp)];rfl
  have gme:(ext S [R 57 0 false [.map (some m)]]).heap.get m=some (.map 3 (Cy own)):=by rw[oe _ _ lm];exact gm
  refine IB hE gi gme (by omega) fun v s2 ho2 hrd hsl=>?_
  have hoS:DL S.next S s2:=(Ci (s:=S)).trans (ho2.mono (Ci (s:=S)).1)
  have hbs:b<s2.next:=by have:=ho2.1;rw[Ce,hs,CN]at this;simp at this;omega
  have hslb:∀j,EQ v=some j→b<j:=fun j hj=>by have:=hsl j hj;rw[Ce,hs,CN]at this;simp at this;omega
  have o2:∀j,j<b→s2.heap.get j=S.heap.get j:=fun j hj=>hoS.2 j (by omega)
  have hL2:=hL.old hoS
  generalize hb2:s2.next=b2 at hbs
  have hs20:s2=ext s2 []:=(Ca s2).symm
  have hle:v.cells=[v]:=by rcases hrd with⟨_,rfl⟩ | ⟨_,_,_,rfl,_⟩<;>rfl
  have hvc:v.isCell=true:=FZ hrd
  have gv:∀os,(ext s2 (R 30 0 false [v]::os)).heap.get (nid b2 0)=some (R 30 0 false [v]):=fun os=>by rw[CR hb2 (by simp)];rfl
  have e2:∀os j,j<b→(ext s2 os).heap.get j=S.heap.get j:=fun os j hj=>by rw[Cm (by omega)];exact o2 j hj
  have ho3:DL S.next S (ext s2 [R 30 0 false [v]]):=hoS.trans ((Ci (s:=s2)).mono hoS.1)
  have hrd3:=hrd.old (Ci (s:=s2) (os:=[R 30 0 false [v]]))
  have hlen3:=hrd3.len
  have hn3:(ext s2 [R 30 0 false [v]]).next=b2+1:=by rw[Ce,hb2,CN];simp
  have g3:=gv []
  have e3:=e2 [R 30 0 false [v]]
  rw[hs20]
  simp only[A3k,aw,hb2,hle,hvc,QS,Wg]
  generalize hs3:ext s2 [R 30 0 false [v]]=s3 at ho3 hrd3 hlen3 hn3 g3 e3
  have fin:∀ (s':CO) (vs:List AV) (n:Int),Hw vs 6=.ptr (some (b6,0))→s'.heap.get b6=some (R 3 0 false [iv n])→s'.heap.get mk=some .mark →
      (∀s'',s''.next=s'.next→(∀j,j≠mk→s''.heap.get j=s'.heap.get j)→K (iv n) s'')→Jj (EL s' [mk]) fun s'=>Jj (Dj prog s' vs [(CX.var 6,some 3)]) fun l=>K (DO l) s':=by
    intro s' vs n h1 h2 h3 h4
    obtain⟨s'',u1,u2,u3⟩:=HW [mk] s' (by simp) (fun j hj=>by rw[A9E.1 hj];exact h3)
    rw[u1]
    have u3':∀j,j≠mk→s''.heap.get j=s'.heap.get j:=fun j hj=>u3 j (by simpa using hj)
    have h2':s''.heap.get b6=some (R 3 0 false [iv n]):=by rw[u3' _ hne.2.1];exact h2
    simp only[Qm,FF,h1,Ee,h2',QS,Wg]
    exact h4 s'' u2 u3'
  simp only[VA,IT,g3,hlen3,Qb,QS,Wg]
  have hlt2:=hL.lt
  have old:∀ (n:Int) (s':CO),Tf L.F kind name nn (DS own)=.old n→s'.next=s3.next→(∀j,j≠b6→j≠mk→s'.heap.get j=s3.heap.get j)→K (iv n) s':=by
    intro n s' he hn hf
    rw[he]at hK
    have hj:∀j,j<b→j≠b6→j≠mk→s'.heap.get j=S.heap.get j:=fun j h1 h2 h3=>by rw[hf j h2 h3,e3 j h1]
    have hnn:S.next≤s'.next:=by rw[hn,hn3,hs];omega
    refine hK s' O (hL.frame hnn fun j hm=>hj j (by have:=hlt2 j hm;omega) (fun h=>hO.2.1 (h▸hm)) (fun h=>hO.2.2 (h▸hm))) ⟨hnn,fun j h1 h2=>?_⟩ (DR.refl O S)
    simp only[A8I,not_or]at h2
    exact hj j (by omega) h2.1 h2.2.1
  have hperm:=(EM own).length_eq
  have hsz:∀n:Int,(setObj s3 b6 (R 3 0 false [iv n])).heap.get mk=some .mark:=fun n=>by rw[CS _ (Ne.symm hne.2.1),e3 _ lk];exact gk
  have g6':=(e3 b6 l6).trans g6
  have g7':=(e3 b7 l7).trans g7
  have hrs:∀x∈DS own,0≤x∧x<L.F.length:=fun x hx=>hr x ((EM own).mem_iff.1 hx)
  generalize hso:DS own=so at hK hrd3 hrs old hperm
  match so,hK,hrd3,hrs,old,hperm with
  | [],hK,hrd3,hrs,old,hperm =>
    simp only[OM,A8b,Int.natCast_zero,A9Z,Wd,Qb,QS]
    simp only[VB,Ee,HC,g7',g6',Qb,QS,Wg]
    refine fin _ _ nn rfl (Co _ _ _) (hsz nn) fun s'' u1 u2=>old nn s'' rfl (by rw[u1,Cp]) fun j h1 h2=>by rw[u2 j h2,CS _ h1]
  | [x],hK,hrd3,hrs,old,hperm =>
    obtain⟨j,q0,cap,rfl,hj,hld⟩:=hrd3.at (k:=0) (x:=x) rfl
    have e1:CQ prog 30 (.slice (some (j,q0)) 1 cap) (.int .i64 0)=some (.ptr (some (j,q0+0 * 1))):=Cj (P:=prog) underlying30 HC (show 0<1 by omega)
    have d0:decide ((1:Int)=0)=false:=rfl
    simp only[OM,A8P,A8b,A8V,Int.natCast_one,d0,Wd,Qb,QS]
    simp only[QY,A9Z,Wd,Qb,QS]
    simp only[VC,IT,Ee,HC,g3,g6',A8P,A8b,A8V,e1,hld,Qb,QS,Wg]
    refine fin _ _ x rfl (Co _ _ _) (hsz x) fun s'' u1 u2=>old x s'' rfl (by rw[u1,Cp]) fun j h1 h2=>by rw[u2 j h2,CS _ h1]
  | x::y::l,hK,hrd3,hrs,old,hperm =>
    generalize hsol:x::y::l=so at hK hrd3 hrs old hperm
    have hsn:2≤so.length:=by rw[← hsol];simp
    have hend:Tf L.F kind name nn so=.put (Ex L.F kind name so):=by rw[← hsol];rfl
    rw[hend]at hK
    obtain⟨j,q0,cap,rfl,hj,hld⟩:=hrd3.at (k:=0) (x:=so[0]) (A8O (by omega))
    have d0:decide ((so.length:Int)=0)=false:=decide_eq_false (by omega)
    have d1:decide ((so.length:Int)=1)=false:=decide_eq_false (by omega)
    have g4':=(e3 b4 l4).trans g4
    have g5':=(e3 b5 l5).trans g5
    have hi64:∀z∈so,i64 z:=fun z hz=>by have:=hrs z hz;unfold i64;omega
    have hnum:=fun(K1:AV→CO→Prop)=>Ty (K:=K1) hE hrd3 (by omega) (by omega) hi64 (hg.old ho3)
    simp only[OM,d0,Wd,Qb,QS]
    simp only[QY,d1,Wd,Qb,QS]
    simp only[VD,IT,Dt,g3,g4',Wn,List.take,List.drop,Qb,QS,Wg]
    refine hnum _ fun s6 ho6=>?_
    have ho7:DL S.next S s6:=ho3.trans (ho6.mono ho3.1)
    have f3:s6.heap.get (nid b2 0)=some (R 30 0 false [.slice (some (j,q0)) so.length cap]):=by rw[ho6.2 _ (by rw[hn3,CN];omega)];exact g3
    have f4:s6.heap.get b4=some (R 24 0 false [.ptr (some (p,0))]):=by rw[ho7.2 b4 (by omega)];exact g4
    have f5:s6.heap.get b5=some (R 9 0 false [.str name]):=by rw[ho7.2 b5 (by omega)];exact g5
    have n6:b2+1≤s6.next:=by have:=ho6.1;omega
    refine⟨⟨Hh (by simp only[QS];rw[Ha IT,f3];rfl) (by simp only[QS];exact Tg _ _ _),Hh (by simp only[QS];rw[Ha Dt,f4];rfl) (by simp only[QS];exact Jz _ _),trivial⟩,?_⟩
    have hjb:=hslb j rfl
    have hz:=P8 (fun k=>(hL.szs h0 k).1) so 1
    have hjs:=XY (fun k=>(hL.szs h0 k).2) so
    have hnl:=Xw hi64
    have hrd6:=hrd3.old ho6
    have hput:=fun(K1:AV→CO→Prop)=>NX (E:=E) (K:=K1) hE (hL.old ho7) hsm hSm (f:=Ex L.F kind name so) (x:=.slice (some (j,q0)) so.length cap::KE) (xo:=[j])
      (Ze ⟨by show(0:Int)≤kind;omega,by show kind≤9;omega⟩ (by show i64 0;unfold i64;omega) ⟨by show(-1:Int)≤0;omega,by show(0:Int)≤L.S.length;omega⟩ ⟨by show(-1:Int)≤0;omega,by show(0:Int)≤L.S.length;omega⟩ (by show(Mf so).length≤_;omega)
        (fun k hk=>hrs k hk) (fun h=>by have h:kind=4:=h;omega) (fun h=>by have h:kind=9:=h;omega) (by show 1≤In L.F 1 so;omega)
        (fun h=>by show((T0 L.F name so).length:Int)≤200000 * (In L.F 1 so);unfold T0;simp only[A8X,A8P,A8b];omega) (by show so.length≤_;omega))
      ⟨⟨_,_,rfl,hrd6,(fun i hi=>by injection hi with hi;simp[hi]),rfl⟩,fun i hi=>by simp at hi;rw[hi];omega⟩
      (fun i hi hm=>by simp at hi;have:=hlt2 i hm;omega) (g:=84) (fs:=[]) (cs:=[.ptr (some (nid b2 0,0)),.ptr (some (b4,0)),.ptr (some (b5,0))])
      (fun s1 K1 k1 k2=>oQ hE ((hL.old ho7).old k1) h0 (hrd6.old k1) (by omega) (by omega) hrs ((k1.2 _ (by omega)).trans f4) ((k1.2 _ (by rw[CN];omega)).trans f3) ((k1.2 _ (by omega)).trans f5) ⟨by have:=k1.1;omega,by have:=k1.1;rw[CN];omega,by have:=k1.1;omega⟩ hnm k2)
    simp only[TK,QS]
    refine hput _ fun s' O' k1 k2 k3=>?_
    have hb6:s'.heap.get b6=some (R 3 0 false [iv 0]):=by rw[k2.2 b6 (by omega) hO.2.1,ho7.2 b6 (by omega)];exact g6
    have hmk:s'.heap.get mk=some .mark:=by rw[k2.2 mk (by omega) hO.2.2,ho7.2 mk (by omega)];exact gk
    simp only[HC,hb6,QS,Wg]
    refine fin _ _ _ rfl (Co _ _ _) (by rw[CS _ (Ne.symm hne.2.1)];exact hmk) fun s'' u1 u2=>?_
    have hgr:DR O O' S:=fun i hi=>by
      rcases k3 i hi with h | h
      · rcases A8q.1             h with h | h
        · simp at h;exact .inr (by omega)
        · exact .inl h
      · exact .inr (by have:=ho7.1;omega)
    have hnot:∀i,i<b→i ∉ O→i ∉ O':=fun i h1 h2 hm=>(hgr i hm).elim h2 fun h=>by omega
    have hfr:=(ho7.frO O).trans k2 (DR.refl O S)
    refine hK s'' O' (k1.frame (by rw[u1,Cp];exact A8H _) fun i hi=>?_) ⟨by rw[u1,Cp];exact hfr.1,fun i h1 h2=>?_⟩ hgr
    · rw[u2 i (fun h=>by rw[h]at hi;exact hnot mk lk hO.2.2 hi),CS _ (fun h=>by rw[h]at hi;exact hnot b6 l6 hO.2.1 hi)]
    · simp only[A8I,not_or]at h2
      rw[u2 i h2.2.1,CS _ h2.1]
      exact hfr.2 i h1 h2.2.2
end
end
end Go.Proofs.YtoaaclpjkelofaaGreatDoor.Am
set_option linter.all false
set_option maxRecDepth 20000
namespace Go.Proofs.YtoaaclpjkelofaaGreatDoor.Am
open Go Go.Proofs
noncomputable section
open Tryz
def Pe (F:List Fm) (kind:Int) (name:List Nat) (nn all:Int) (own:List Int):Mk:=if own.any (ET F kind own)then .old all else Tf F kind name nn (DS own)
theorem GO(i o:Nat):Fx (.ptr (some (i,o))) (.ptr (some (i,o)))=true:=Jz i o
theorem tL(S:CO):DL S.next S ⟨S.next+1,S.heap⟩:=⟨A8s _,fun _ _=>rfl⟩
section
variable{E:Dw}(hE:Cn E){S:CO}{p:Nat}{L:LG}{O:List Nat}(hL:DG S p L O)(hsm:L.F.length<1000000)(hSm:L.S.length≤1000000)(h0:0<L.F.length)(hg:Fp S O)
  {b4 b5 b6 b7 b8 b9 m mk:Nat} {own:List Int} {nn all kind:Int} {name:List Nat} (g4:S.heap.get b4=some (R 24 0 false [.ptr (some (p,0))])) (g5:S.heap.get b5=some (R 9 0 false [.str name])) (g6:S.heap.get b6=some (R 3 0 false [iv 0]))
  (g7:S.heap.get b7=some (R 3 0 false [iv nn])) (g8:S.heap.get b8=some (R 3 0 false [iv all])) (g9:S.heap.get b9=some (R 57 0 false [.map (some m)])) (gm:S.heap.get m=some (.map 3 (Cy own))) (gk:S.heap.get mk=some .mark)
  (hlt:b4<S.next∧b5<S.next∧b6<S.next∧b7<S.next∧b8<S.next∧b9<S.next∧m<S.next∧mk<S.next) (hO:b4 ∉ O∧b6 ∉ O∧mk ∉ O) (hne:b6≠b4∧b6≠mk∧b4≠mk∧b6≠b8∧b6≠b9∧b6≠m) (hnm:name.length≤100) (hkind:kind=2∨kind=3)
  (hnd:own.Nodup) (hlen:own.length≤1000) (hr:∀x∈own,0≤x∧x<L.F.length) {K:AV→CO→Prop}
  (hK:∀s' O',DG s' p ⟨L.S,(Pe L.F kind name nn all own).fs L.F,L.A,L.q⟩ O'→Eb (b6::mk::O) S s'→DR O O' S→K (iv ((Pe L.F kind name nn all own).num L.F)) s')
  {v0 v1 v3 x10 x15 x16 x17 x18 x19 x20 x24 x25 x26:AV} (hsj:∀x∈[v0,v1,v3,x10,x15,x16,x17,x18,x19,x24,x25,x26],Fx x x=true∧Dg x=true) (h20:Dg x20=true)
include hE hL hsm hSm h0 hg g4 g5 g6 g7 g8 g9 gm gk hlt hO hne hnm hkind hnd hlen hr hK hsj h20
theorem Xi:
    WC E none (Ck.rangeMap MT U8) (Nr (fun x x_3 x_4=>Qb E U9 (fun v s'=>Qb E VA (fun v s'=>Qb E OM (fun v s'=>KU (Hw v 25)
        (fun x x_5 x_6=>Qb E VB (fun v s'=>Jj (EL s' x_5) fun s'=>Jj (Dj prog s' v [(CX.var 6,some 3)]) fun l=>K (DO l) s') [] x x_6)
        (fun x x_5 x_6=>Qb E QY (fun v s'=>KU (Hw v 26)
            (fun x x_7 x_8=>Qb E VC (fun v s'=>Jj (EL s' x_7) fun s'=>Jj (Dj prog s' v [(CX.var 6,some 3)]) fun l=>K (DO l) s') [] x x_8)
            (fun x x_7 x_8=>Qb E VD (fun v s'=>Jj (EL s' x_7) fun s'=>Jj (Dj prog s' v [(CX.var 6,some 3)]) fun l=>K (DO l) s') [] x x_8) v x_5 s') [] x x_6) v x_3 s') [] v s') [] v s') [] x x_4)
        (Ends prog [(CX.var 6,some 3)] K))
      [v0,v1,iv kind,v3,.ptr (some (b4,0)),.ptr (some (b5,0)),.ptr (some (b6,0)),.ptr (some (b7,0)),.ptr (some (b8,0)),.ptr (some (b9,0)),x10,Cx,Cx,Cx,Cx,x15,x16,x17,x18,x19,x20,Cx,Cx,Cx,x24,x25,x26] [mk] S:=by
  obtain⟨l4,l5,l6,l7,l8,l9,lm,lk⟩:=hlt
  obtain⟨n4,nk,n4k,n8,n9,nm⟩:=hne
  obtain⟨s0,k1,k2,k3,k4⟩:=sg (n:=S.next+1) g6
  obtain⟨jf,hR⟩:=A0u.of hL h0 g4 g6 g8 g9 gm ⟨l4,l6,l8,l9,lm⟩ hO.2.1 ⟨n4,n8,n9,nm⟩ k2 k3 k4
  simp only[A9B,A8K,false_imp_iff,implies_true,A9T]at hsj
  obtain⟨s0',s1',s3',s10,s15,s16,s17,s18,s19,s24,s25,s26⟩:=hsj
  refine WC.rangeMap2 (r:=MT) (m:=.map (some m)) (es:=Cy own) (J:=[22,12,13,14,23])
    (A:=[v0,v1,iv kind,v3,.ptr (some (b4,0)),.ptr (some (b5,0)),.ptr (some (b6,0)),.ptr (some (b7,0)),.ptr (some (b8,0)),.ptr (some (b9,0)),x10,.junk,.junk,.junk,.junk,x15,x16,x17,x18,x19,.ptr (some (S.next,0)),.junk,.junk,.junk,x24,x25,x26])
    (M:=[[iv all]]) (s0:=s0) (PX:=Mz 27 6 (.ptr (some (b6,0)))) (fun k=>match k with | .int _ n=>ET L.F kind own n | _=>false) ?_ ?_ rfl ?_ ?_ k1 (fun X Y hX hY=>hX.merge (GO _ _) hY) ?_ ?_ ?_ ?_
  · show CJ prog S 57 (.ptr (some (b9,0)))=_
    rw[Ha Pn,g9];rfl
  · unfold P6;simp only[gm]
  · rfl
  · show(IG (.ptr (some (S.next,0))) (.ptr (some (S.next,0))) && IG (.ptr (some (S.next,0))) (.ptr (some (S.next,0))))=true
    rw[Jz];rfl
  · simp[A0f,IG,IG.eqAs,He,NG]
  · intro e he
    obtain⟨x,hx,rfl⟩:=List.mem_map.1 he
    refine fy hE hR hr (fun i f hi=>⟨(hL.ok i f hi).kids,(hL.ok i f hi).not⟩) (by omega) (b5v:=.ptr (some (b5,0))) (b7v:=.ptr (some (b7,0))) ?_ hx
    simp only[A9B,A8K,false_imp_iff,implies_true,A9T]
    exact⟨s0',s1',⟨by simp[Fx,IG,He,NG],rfl⟩,s3',⟨GO _ _,rfl⟩,⟨GO _ _,rfl⟩,⟨GO _ _,rfl⟩,⟨GO _ _,rfl⟩,⟨GO _ _,rfl⟩,⟨GO _ _,rfl⟩,s10,s15,s16,s17,s18,s19,⟨GO _ _,rfl⟩,s24,s25,s26⟩
  · intro ha
    have hany:own.any (ET L.F kind own)=true:=by
      obtain⟨e,he,hc⟩:=List.any_eq_true.1 ha
      obtain⟨x,hx,rfl⟩:=List.mem_map.1 he
      exact List.any_eq_true.2 ⟨x,hx,hc⟩
    have hres:Pe L.F kind name nn all own=.old all:=by unfold Pe;rw[if_pos hany]
    rw[hres]at hK
    refine⟨S.heap.set b6 (R 3 0 false [iv all]),?_,fun X hX=>?_⟩
    · show YR   S.heap [b6] [[iv all]] = _
      simp only[YR,g6]
      rfl
    · obtain⟨hX1,hX2,hX3⟩:=hX
      have hget:(setObj ⟨S.next+1,S.heap⟩ b6 (R 3 0 false [iv all])).heap.get mk=some .mark:=by rw[CS _ (Ne.symm nk)];exact gk
      obtain⟨s'',u1,u2,u3⟩:=HW [mk] (setObj ⟨S.next+1,S.heap⟩ b6 (R 3 0 false [iv all])) (by simp) (fun j hj=>by rw[A9E.1 hj];exact hget)
      have u3':∀j,j≠mk→s''.heap.get j=(setObj ⟨S.next+1,S.heap⟩ b6 (R 3 0 false [iv all])).heap.get j:=fun j hj=>u3 j (by simpa using hj)
      refine⟨rfl,s'',u1,[iv all],?_,?_⟩
      · have h6 : s''.heap.get b6 = some (R 3 0 false [iv all]) := by rw [u3' _ nk, Co]
        have hcv:Fz [] X (.var 6)=.ptr (some (b6,0)):=by
          show Hw X 6=_
          match X,hX1,hX3 with
          | _::_::_::_::_::_::_::_,_,h=>exact Option.some.inj h
        rw[FF,hcv,Ha Ee,h6]
        rfl
      · have hlt2 := hL.lt
        have hn:S.next≤s''.next:=by rw[u2,Cp];exact A8s _
        refine hK s'' O (hL.frame hn fun j hj=>?_) ⟨hn,fun j h1 h2=>?_⟩ (DR.refl O S)
        · rw[u3' _ (fun h=>by rw[h]at hj;exact hO.2.2 hj),CS _ (fun h=>by rw[h]at hj;exact hO.2.1 hj)]
        · simp only[A8I,not_or]at h2
          rw[u3' _ h2.2.1,CS _ h2.1]
  · intro ha
    have hany:own.any (ET L.F kind own)=false:=by
      rw[Bool.eq_false_iff]
      intro h
      obtain⟨x,hx,hc⟩:=List.any_eq_true.1 h
      have:=List.any_eq_false.1 ha (iv x,AV.agg []) (List.mem_map.2 ⟨x,hx,rfl⟩)
      exact this hc
    have hres:Pe L.F kind name nn all own=Tf L.F kind name nn (DS own):=by unfold Pe;rw[if_neg (by rw[hany];simp)]
    rw[hres]at hK
    have ho:=tL S
    have hn:=ho.1
    refine ft hE (hL.old ho) hsm hSm h0 (hg.old ho) g4 g5 g6 g7 g9 gm gk ⟨by omega,by omega,by omega,by omega,by omega,by omega,by omega⟩ hO ⟨n4,nk,n4k⟩ hnm hkind hnd hlen hr (fun s' O' q1 q2 q3=>hK s' O' q1 ⟨by have:=q2.1;omega,fun j h1 h2=>q2.2 j (by omega) h2⟩ fun j hj=>(q3 j hj).imp id fun h=>by omega) _ _ _ _ _ _ _ _ _ _ _ _ _ _ _ _ _ _ _ _ _
end
end
end Go.Proofs.YtoaaclpjkelofaaGreatDoor.Am
set_option linter.all false
set_option maxHeartbeats 1000000
set_option maxRecDepth 20000
namespace Go.Proofs.YtoaaclpjkelofaaGreatDoor.Am
open Go Go.Proofs
noncomputable section
open Tryz
theorem Eb.sub{O O':List Nat}{s s':CO}(h:Eb O s s')(k:∀j∈O,j∈O'):Eb O' s s':=⟨h.1,fun j hj hn=>h.2 j hj fun hm=>hn (k j hm)⟩
theorem RM{F:List Fm}(hk:F3 F)(h0:0<F.length){kind:Int}:∀ {l:List Int},∀y∈EY F kind l,0≤y∧y<F.length
 | [],y,hy=>by cases hy
 | x::l,y,hy=>by
  have hx:=WJ (x:=x) h0
  unfold EY at hy
  rcases A8q.1 hy with hy | hy
  ·unfold Mj at hy
   split at hy
   ·exact hk.at hx y hy
   ·simp at hy;rw[hy];exact hx
  ·exact RM hk h0 y hy
theorem YK(a:Option (Nat×Nat))(n:Nat)(c:Option Nat):Fx (.slice a n c) (.slice a n c)=true:=Tg a n c
section
variable{E:Dw}(hE:Cn E){s:CO}{p:Nat}{L:LG}{O:List Nat}(hL:DG s p L O)(hsm:L.F.length<1000000)(hSm:L.S.length≤1000000)(h2:HH L.F)(hg:Fp s O)
  {kind:Int} {fl:List Int} {fv:AV} (hrd:Cl s fv fl) (hsf:∀j,EQ fv=some j→j ∉ O) (hfl:(EY L.F kind fl).length≤1000) (hi:∀x∈fl,i64 x) (hkind:kind=2∨kind=3) {name:List Nat} (hnm:name.length≤100)
include hE hL hsm hSm h2 hrd hi hkind hnm hg hsf hfl
theorem tE(hfl1:fl.length≤1000000){K:AV→CO→Prop}(hK:∀s' O',DG s' p ⟨L.S,(EH L.F kind name fl).fs L.F,L.A,L.q⟩ O'→Eb O s s'→DR O O' s→K (iv ((EH L.F kind name fl).num L.F)) s'):WF E 45 [.ptr (some (p,0)),fv,iv kind,.str name] K s:=by
 refine hE.go A1s (by decide) rfl ?_
 generalize hs:s.next=b
 have hs0:s=ext s []:=(Ca s).symm
 rw[hs0]
 simp only[A7P,xP,xQ,F4,A6B,hs,Dt,Qa,Qb,QS,Wg,Nat.reduceAdd,Nat.reduceLT]
 have ho:DL s.next s (ext s [R 24 0 false [.ptr (some (p,0))],R 9 0 false [.str name],R 3 0 false [iv 0],R 3 0 false [iv 0],R 3 0 false [iv 0]]):=Ci
 generalize hse:ext s [R 24 0 false [.ptr (some (p,0))],R 9 0 false [.str name],R 3 0 false [iv 0],R 3 0 false [iv 0],R 3 0 false [iv 0]]=se at ho
 have hnx:se.next=b+5:=by rw[← hse,Ce,CN,hs];rfl
 have g0:se.heap.get (nid b 0)=some (R 24 0 false [.ptr (some (p,0))]):=by rw[← hse,CR hs (by simp)];rfl
 have g1:se.heap.get (nid b 1)=some (R 9 0 false [.str name]):=by rw[← hse,CR hs (by simp)];rfl
 have g2:se.heap.get (nid b 2)=some (R 3 0 false [iv 0]):=by rw[← hse,CR hs (by simp)];rfl
 have g3:se.heap.get (nid b 3)=some (R 3 0 false [iv 0]):=by rw[← hse,CR hs (by simp)];rfl
 have g4:se.heap.get (nid b 4)=some (R 3 0 false [iv 0]):=by rw[← hse,CR hs (by simp)];rfl
 have hbO:∀k,nid b k ∉ O:=fun k hm=>by have:=hL.lt _ hm;rw[CN]at this;omega
 refine Ug hE (hL.old ho) hsm hSm h2 fun s1 O1 hL1 f1 w1=>?_
 have a1:∀k,k<5→s1.heap.get (nid b k)=se.heap.get (nid b k):=fun k hk=>f1.2 _ (by rw[hnx,CN];omega) (hbO k)
 have hbO1:∀k,k<5→nid b k ∉ O1:=fun k hk hm=>(w1 _ hm).elim (hbO k) fun h=>by rw[hnx,CN]at h;omega
 refine⟨⟨Hh (by simp only[QS];rw[Ha Dt,a1 0 (by omega),g0];rfl) (by simp only[QS];exact Jz _ _),trivial⟩,?_⟩
 simp only[QS]
 refine Ug hE hL1 hsm hSm h2 fun s2 O2 hL2 f2 w2=>?_
 have a2:∀k,k<5→s2.heap.get (nid b k)=se.heap.get (nid b k):=fun k hk=>(f2.2 _ (by have:=f1.1;rw[hnx]at this;rw[CN];omega) (hbO1 k hk)).trans (a1 k hk)
 have hbO2:∀k,k<5→nid b k ∉ O2:=fun k hk hm=>(w2 _ hm).elim (hbO1 k hk) fun h=>by have:=f1.1;rw[hnx]at this;rw[CN]at h;omega
 have q3:=(a2 3 (by omega)).trans g3
 have q4:=(a2 4 (by omega)).trans g4
 have hne34:nid b 3≠nid b 4:=by rw[CN,CN];omega
 simp only[q3,q4,HC,CS _ (Ne.symm hne34),QS,Wg]
 generalize hs3:setObj (setObj s2 (nid b 3) (R 3 0 false [iv (if decide (kind=2)=true then 0 else 1)])) (nid b 4) (R 3 0 false [iv (if decide (kind≠2)=true then 0 else 1)])=s3
 have n3:s3.next=s2.next:=by rw[← hs3,Cp,Cp]
 have f3:∀j,j≠nid b 3→j≠nid b 4→s3.heap.get j=s2.heap.get j:=fun j h1 h2=>by rw[← hs3,CS _ h2,CS _ h1]
 have m0:s3.heap.get (nid b 0)=some (R 24 0 false [.ptr (some (p,0))]):=by rw[f3 _ (by rw[CN,CN];omega) (by rw[CN,CN];omega),a2 0 (by omega)];exact g0
 have hn2:b+5≤s2.next:=by have:=f1.1;have:=f2.1;omega
 generalize hb3:s3.next=b3 at n3
 have hs30:s3=ext s3 []:=(Ca s3).symm
 have m0e:∀os,(ext s3 os).heap.get (nid b 0)=some (R 24 0 false [.ptr (some (p,0))]):=fun os=>by rw[Cm (by rw[hb3,n3,CN];omega)];exact m0
 have kt:D8 prog 57=some 3:=by kernel_rfl
 rw[hs30]
 simp only[xR,kt,F4,A5u,A5q,hb3,Qb,QS,Wg,Nat.reduceAdd]
 have hb30:b+5≤b3:=by omega
 simp only[xS,Dt,m0e,Qb,QS,Wg]
 refine hE.go A2N (by decide) rfl ?_
 simp only[A7k,zM,zN,hb3,List.take,List.drop,Qa,Qb,QS,Wg,Nat.reduceAdd]
 have hfc:fv.cells=[fv]:=by rcases hrd with⟨_,rfl⟩ | ⟨_,_,_,rfl,_⟩<;>rfl
 have hfs:Fx fv fv=true∧Dg fv=true:=by rcases hrd with⟨_,rfl⟩ | ⟨_,_,_,rfl,_⟩<;>exact⟨YK _ _ _,rfl⟩
 refine WC.range (g:=117) (first:=[]) (cap:=[.ptr (some (nid b3 3,0)),.ptr (some (nid b3 2,0)),.ptr (some (nid b3 4,0))]) rfl ?_
 rw[hfc]
 generalize hlo:Gv 45 _ _ _ _ _=lo
 rw[H7,H7]
 have nA:(ext s3 [.map 3 [],R 57 0 false [.map (some (nid b3 0))],R 24 0 false [.ptr (some (p,0))],R 30 0 false [fv],R 3 0 false [.int .i64 kind]]).next=b3+5:=by rw[Ce,hb3,CN];rfl
 rw[nA]at hlo ⊢
 simp only[A8e,A8i]
 have oB:DL s3.next s3 (ext s3 [.map 3 [],R 57 0 false [.map (some (nid b3 0))],R 24 0 false [.ptr (some (p,0))],R 30 0 false [fv],R 3 0 false [.int .i64 kind],.mark,.loop lo]):=Ci
 have gB:=fun k (hk:k<7)=>CR (k:=k) (os:=[.map 3 [],R 57 0 false [.map (some (nid b3 0))],R 24 0 false [.ptr (some (p,0))],R 30 0 false [fv],R 3 0 false [.int .i64 kind],.mark,.loop lo]) hb3 (by simpa using hk)
 generalize hsB:ext s3 [.map 3 [],R 57 0 false [.map (some (nid b3 0))],R 24 0 false [.ptr (some (p,0))],R 30 0 false [fv],R 3 0 false [.int .i64 kind],.mark,.loop lo]=sB at oB gB
 have nB:sB.next=b3+7:=by rw[← hsB,Ce,hb3,CN];rfl
 simp only[CN]at gB
 have gm:=gB 0 (by omega)
 have g9:=gB 1 (by omega)
 have gL:=gB 2 (by omega)
 have gF:=gB 3 (by omega)
 have gK:=gB 4 (by omega)
 have gmk:=gB 5 (by omega)
 have glo:=gB 6 (by omega)
 simp only[List.getElem?_cons_zero,List.getElem?_cons_succ,A8f]at gm g9 gL gF gK gmk glo
 simp only[CN,A8f]at hlo hbO2 hbO hne34 ⊢
 have hlo':lo=A8E (.ptr (some (p,0))) fv (iv kind) (.str name) b (b+1) (b+2) (b+3) (b+4) (b3+1) Cx Cx Cx Cx Cx Cx (.func 117 [] [.ptr (some (b3+3,0)),.ptr (some (b3+2,0)),.ptr (some (b3+4,0))]) Cx Cx Cx Cx Cx Cx Cx Cx Cx Cx (b3+5):=hlo.symm
 have hpd:lo.pending=none:=by rw[← hlo];rfl
 have hst:lo.state=.ready:=by rw[← hlo];rfl
 obtain⟨nn,hnn⟩:∃nn:Int,nn=if kind=2 then 0 else 1:=⟨_,rfl⟩
 obtain⟨all,hall⟩:∃x:Int,x=if kind=2 then 1 else 0:=⟨_,rfl⟩
 have eo:∀j,j<b3→sB.heap.get j=s3.heap.get j:=fun j hj=>oB.2 j (by omega)
 have b0:sB.heap.get b=some (R 24 0 false [.ptr (some (p,0))]):=by rw[eo b (by omega)];simpa[CN]using m0
 have b1:sB.heap.get (b+1)=some (R 9 0 false [.str name]):=by
  rw[eo _ (by omega),f3 _ (by rw[CN];omega) (by rw[CN];omega)]
  have:=(a2 1 (by omega)).trans g1
  simpa[CN]using this
 have b2:sB.heap.get (b+2)=some (R 3 0 false [iv 0]):=by
  rw[eo _ (by omega),f3 _ (by rw[CN];omega) (by rw[CN];omega)]
  have:=(a2 2 (by omega)).trans g2
  simpa[CN]using this
 have b3':sB.heap.get (b+3)=some (R 3 0 false [iv nn]):=by
  rw[eo _ (by omega),← hs3]
  simp only[CN]
  rw[CS _ (by omega),Co,hnn]
  by_cases hk:kind=2<;>simp[hk]
 have b4':sB.heap.get (b+4)=some (R 3 0 false [iv all]):=by
  rw[eo _ (by omega),← hs3]
  simp only[CN]
  rw[Co,hall]
  by_cases hk:kind=2<;>simp[hk]
 have hlt2:=hL2.lt
 have hO2:∀j∈O2,j<b3:=fun j hj=>by have:=hlt2 j hj;omega
 have hLB:DG sB p L O2:=(hL2.frame (by omega) fun j hj=>f3 j (fun h=>by rw[CN]at h;exact hbO2 3 (by omega) (h▸hj)) (fun h=>by rw[CN]at h;exact hbO2 4 (by omega) (h▸hj))).old oB
 have h0:0<L.F.length:=by have:=Ve h2.1;omega
 have hkids:F3 L.F:=fun i f hi=>(hL.ok i f hi).kids
 have gO1:DR O O1 s:=(DR.refl O s).trans w1 ho.1
 have gO2:DR O O2 s:=gO1.trans w2 (by have:=f1.1;omega)
 have fB:Eb O s sB:=⟨by omega,fun j hj hn=>by
  rw[eo j (by omega),f3 j (by rw[CN];omega) (by rw[CN];omega),f2.2 j (by have:=f1.1;omega) (fun hm=>(w1 j hm).elim hn fun h=>by omega),f1.2 j (by omega) hn,ho.2 j hj]⟩
 have hgB:Fp sB O2:=hg.step fB gO2
 have hrdB:Cl sB fv fl:=hrd.fx fB hsf
 obtain⟨res,hres⟩:∃r,r=Jv nn all [] (EY L.F kind fl):=⟨_,rfl⟩
 have hfin:∀ (own:List Int),res=some own→Pe L.F kind name nn all own=EH L.F kind name fl:=fun own h=>by
  unfold EH Pe
  simp only[← hnn,← hall,← hres,h]
  rfl
 have hfin2:res=none→EH L.F kind name fl=.old all:=fun h=>by
  unfold EH
  simp only[← hnn,← hall,← hres,h]
 have hend:∀ (S'' s':CO) (O':List Nat) (M:Mk),M=EH L.F kind name fl→DG s' p ⟨L.S,M.fs L.F,L.A,L.q⟩ O'→(∀j,j<b→j ∉ O→S''.heap.get j=s.heap.get j)→b3≤S''.next→Eb ((b+2)::(b3+5)::O2) S'' s'→DR O2 O' S''→K (iv (M.num L.F)) s':=by
  intro S'' s' O' M hM q1 q2 q3 q4 q5
  subst hM
  refine hK s' O' q1 ⟨by have:=q4.1;omega,fun j hj hn=>?_⟩ (gO2.trans q5 (by omega))
  rw[q4.2 j (by omega) (fun hm=>?_),q2 j (by omega) hn]
  simp only[A8I]at hm
  rcases hm with h | h | h
  ·omega
  ·omega
  ·exact(gO2 j h).elim hn fun h=>by omega
 refine nU hE (W:=[b3+6,b3,b+2]) (fun r S=>A3o lo (b+3) (b+4) (b3+1) b3 (b3+6) nn all 1000 res r S∧S.heap.get (b+2)=some (R 3 0 false [iv 0])) (fun S=>A6o lo (b+2) (b3+6) all res S)
  (fun r S S' h k=>⟨h.1.stab k,(k.2 _ (by have:=h.1.lt.1;omega)).trans h.2⟩)
  (fun y r S K2 hf hI k1 k2=>oV hE hlo' hI.2 (by have:=hI.1.lt.1;omega) ⟨by omega,by omega,by omega,by omega,by omega,by omega,by omega,by omega,by omega,by omega,by omega,by omega⟩ hI.1
   (fun S' q1 q2=>k1 S' (q1.sub fun j hj=>by simp only[A8I,A8K,A9V]at hj ⊢;omega) ⟨q2,by rw[q1.2 _ (by have:=hI.1.lt.1;omega) (by simp only[A8I,A8K,A9V];omega)];exact hI.2⟩)
   (fun S' q1 q2=>k2 S' (q1.sub fun j hj=>by simpa using hj) q2))
  hLB h0 (fun j hj=>?_) hrdB hfl1 hi (fun j hj hm=>?_) gF gL gK ⟨by omega,by omega,by omega⟩ ⟨?_,?_,?_⟩ ⟨?_,b2⟩ ?_ ?_
 ·simp only[A8I,A8K,A9V]at hj
  refine⟨fun hm=>?_,by omega⟩
  have:=hO2 j hm
  rcases hj with rfl | rfl | rfl
  ·omega
  ·omega
  ·exact hbO2 2 (by omega) hm
 ·have hjs:j<b:=by rcases hrd with⟨_,rfl⟩ | ⟨j2,q,c,rfl,hj2,_⟩;cases hj;injection hj with hj;omega
  simp only[A8I,A8K,A9V]at hm
  omega
 ·simp only[A8I,A8K,A9V];omega
 ·simp only[A8I,A8K,A9V];omega
 ·simp only[A8I,A8K,A9V];omega
 ·refine⟨by unfold Df;rw[glo],by omega,b3',b4',g9,⟨by omega,by omega,by omega,by omega⟩,fun x hx=>?_,[],gm,hres.symm,A9A,(fun x hx=>by cases hx),by simpa using hfl⟩
  have:=RM hkids h0 x hx
  unfold i64;omega
 ·intro S' q1 q2
  obtain⟨⟨lp,ll,c7,c8,c9,lt,_,own,cm,hcol,hnd,ho64,hlen⟩,c6⟩:=q2
  have hro:res=some own:=by rw[← hcol];rfl
  have hown:∀x∈own,0≤x∧x<L.F.length:=fun x hx=>by
   have h:=hres
   rw[hro]at h
   exact(NB h.symm x hx).elim (fun h=>by cases h) (RM hkids h0 x)
  refine⟨lo,lp,by rw[hst];rfl,?_⟩
  rw[hpd]
  have e56:b3+5+1=b3+6:=rfl
  rw[e56]
  generalize hS2:setObj S' (b3+6) _=S2
  have n2':S2.next=S'.next:=by rw[← hS2,Cp]
  have f2':∀j,j≠b3+6→S2.heap.get j=S'.heap.get j:=fun j hj=>by rw[← hS2,CS _ hj]
  have nS:=q1.1
  have kS:∀j,j<b3+7→j ∉ [b3+6,b3,b+2]→S2.heap.get j=sB.heap.get j:=fun j h1 h2=>by
   simp only[A8I,A8K,A9V,not_or]at h2
   rw[f2' j h2.1,q1.2 j (by omega) (by simp only[A8I,A8K,A9V,not_or];exact h2)]
  have hno:∀j∈O2,j ∉ [b3+6,b3,b+2]:=fun j hj hm=>by
   have:=hO2 j hj
   simp only[A8I,A8K,A9V]at hm
   rcases hm with rfl | rfl | rfl
   ·omega
   ·omega
   ·exact hbO2 2 (by omega) hj
  have hLS:DG S2 p L O2:=hLB.frame (by omega) fun j hj=>kS j (by have:=hO2 j hj;omega) (hno j hj)
  have hgS:Fp S2 O2:=⟨by rw[Ec (kS 1 (by have:=hgB.2.1;have:=hg.2.1;omega) (fun hm=>by have:=hg.2.1;simp only[A8I,A8K,A9V]at hm;omega))];exact hgB.1,by omega,hgB.2.2⟩
  have nin:∀j,j≠b3+6→j≠b3→j≠b+2→j ∉ [b3+6,b3,b+2]:=fun j h1 h2 h3 hm=>by simp only[A8I,A8K,A9V]at hm;omega
  simp only[PC,QS]
  refine Xi hE hLS hsm hSm h0 hgS ((kS b (by omega) (nin _ (by omega) (by omega) (by omega))).trans b0) ((kS (b+1) (by omega) (nin _ (by omega) (by omega) (by omega))).trans b1) ((f2' _ (by omega)).trans c6) ((f2' _ (by omega)).trans c7) ((f2' _ (by omega)).trans c8) ((f2' _ (by omega)).trans c9) ((f2' _ (by omega)).trans cm)
   ((kS (b3+5) (by omega) (nin _ (by omega) (by omega) (by omega))).trans gmk) ⟨by omega,by omega,by omega,by omega,by omega,by omega,by omega,by omega⟩ ⟨hbO2 0 (by omega),hbO2 2 (by omega),fun h=>by have:=hO2 _ h;omega⟩ ⟨by omega,by omega,by omega,by omega,by omega,by omega⟩ hnm hkind hnd (by simpa using hlen) hown
   (fun s' O' r1 r2 r3=>hend S2 s' O' _ (hfin own hro) r1 (fun j h1 h2=>by rw[kS j (by omega) (nin _ (by omega) (by omega) (by omega))];exact fB.2 j (by omega) h2) (by omega) r2 r3) ?_ rfl
  simp only[A9B,A8K,false_imp_iff,implies_true,A9T]
  exact⟨⟨GO _ _,rfl⟩,hfs,⟨by simp[Fx,IG,Sj],rfl⟩,⟨rfl,rfl⟩,⟨rfl,rfl⟩,⟨by simp[Fx,IG,IG.eqAs],rfl⟩,⟨rfl,rfl⟩,⟨rfl,rfl⟩,⟨rfl,rfl⟩,⟨rfl,rfl⟩,⟨rfl,rfl⟩,⟨rfl,rfl⟩⟩
 ·intro S' q1 q2
  obtain⟨lp,ll,c6,heq⟩:=q2
  refine⟨_,lp,rfl,?_⟩
  have e56:b3+5+1=b3+6:=rfl
  rw[e56]
  generalize hS2:setObj S' (b3+6) _=S2
  have n2':S2.next=S'.next:=by rw[← hS2,Cp]
  have f2':∀j,j≠b3+6→S2.heap.get j=S'.heap.get j:=fun j hj=>by rw[← hS2,CS _ hj]
  have nS:=q1.1
  have kS:∀j,j<b3+7→j ∉ [b3+6,b3,b+2]→S2.heap.get j=sB.heap.get j:=fun j h1 h2=>by
   simp only[A8I,A8K,A9V,not_or]at h2
   rw[f2' j h2.1,q1.2 j (by omega) (by simp only[A8I,A8K,A9V,not_or];exact h2)]
  have nin:∀j,j≠b3+6→j≠b3→j≠b+2→j ∉ [b3+6,b3,b+2]:=fun j h1 h2 h3 hm=>by simp only[A8I,A8K,A9V]at hm;omega
  have hmk:S2.heap.get (b3+5)=some .mark:=(kS (b3+5) (by omega) (nin _ (by omega) (by omega) (by omega))).trans gmk
  obtain⟨s'',u1,u2,u3⟩:=HW [b3+5] S2 (by simp) (fun j hj=>by rw[A9E.1 hj];exact hmk)
  have u3':∀j,j≠b3+5→s''.heap.get j=S2.heap.get j:=fun j hj=>u3 j (by simpa using hj)
  have h6:s''.heap.get (b+2)=some (R 3 0 false [iv all]):=by rw[u3' _ (by omega),f2' _ (by omega)];exact c6
  simp only[PC,QS]
  rw[u1]
  simp only[Qm,FF,Ee,h6,QS,Wg]
  refine hend S2 s'' O2 (.old all) (hfin2 heq).symm (hLB.frame (by omega) fun j hj=>?_) (fun j h1 h2=>by rw[kS j (by omega) (nin _ (by omega) (by omega) (by omega))];exact fB.2 j (by omega) h2) (by omega) ⟨by omega,fun j h1 h2=>?_⟩ (DR.refl _ _)
  ·have:=hO2 j hj
   rw[u3' j (by omega)]
   exact kS j (by omega) (nin _ (by omega) (by omega) (fun h=>hbO2 2 (by omega) (h▸hj)))
  ·simp only[A8I,not_or]at h2
   exact u3' j h2.2.1
end
end
end Go.Proofs.YtoaaclpjkelofaaGreatDoor.Am
