/- A store of forms as laws see it: steps of it; terms and forms put through it; conditions: none. -/
import Derived.Test.YtoaaclpjkelofaaGreatDoorAmM09
import Derived.Test.YtoaaclpjkelofaaGreatDoorAmM05
import Derived.Test.YtoaaclpjkelofaaGreatDoorAmM08
set_option linter.all false
set_option maxHeartbeats 1000000
set_option maxRecDepth 20000
namespace Go.Proofs.YtoaaclpjkelofaaGreatDoor.Am
open Go Go.Proofs
noncomputable section
open Tryz
theorem Lj(S:List Tm)(u:Tm):S <+: push S u:=by
 unfold push
 split
 ·exact A8h _
 ·exact List.prefix_append _ _
structure Lx(s:CO)(p:Nat)(L:LG)(O:List Nat):Prop where
 at_:DG s p L O
 two:HH L.F
 rest:Ko L.F
 glob:Fp s O
structure Dx(W:List Nat)(p:Nat)(s:CO)(L:LG)(O:List Nat)(s':CO)(L':LG)(O':List Nat)(n m:Nat):Prop where
 x:Lx s' p L' O'
 fr:Eb (W++O) s s'
 gr:DR O O' s
 S:L.S <+: L'.S
 F:L.F <+: L'.F
 A:L'.A=L.A
 q:L'.q=L.q
 nF:L'.F.length≤L.F.length+n
 nS:L'.S.length≤L.S.length+m
theorem Lx.old{s s':CO}{p:Nat}{L:LG}{O:List Nat}(h:Lx s p L O)(k:DL s.next s s'):Lx s' p L O:=⟨h.at_.old k,h.two,h.rest,h.glob.old k⟩
theorem Dx.old{W:List Nat}{s s':CO}{p:Nat}{L:LG}{O:List Nat}(h:Lx s p L O)(k:DL s.next s s'):Dx W p s L O s' L O 0 0:=
 ⟨h.old k,k.frO _,DR.refl O s,A8h _,A8h _,rfl,rfl,A8H _,A8H _⟩
theorem Dx.refl{W:List Nat}{s:CO}{p:Nat}{L:LG}{O:List Nat}(h:Lx s p L O):Dx W p s L O s L O 0 0:=Dx.old h (DL.refl _ _)
theorem Dx.trans{W:List Nat}{p:Nat}{s s1 s2:CO}{L L1 L2:LG}{O O1 O2:List Nat}{n m n' m':Nat}(h:Dx W p s L O s1 L1 O1 n m)(k:Dx W p s1 L1 O1 s2 L2 O2 n' m'):Dx W p s L O s2 L2 O2 (n+n') (m+m'):=
 ⟨k.x,h.fr.trans k.fr (fun j hj=>by
  rcases A8q.1 hj with hj | hj
  ·exact .inl (A8q.2 (.inl hj))
  ·exact(h.gr j hj).imp (fun e=>A8q.2 (.inr e)) id),h.gr.trans k.gr h.fr.1,h.S.trans k.S,h.F.trans k.F,k.A.trans h.A,k.q.trans h.q,by have:=h.nF;have:=k.nF;omega,by have:=h.nS;have:=k.nS;omega⟩
theorem Dx.mono{W:List Nat}{p:Nat}{s s':CO}{L L':LG}{O O':List Nat}{n m n' m':Nat}(h:Dx W p s L O s' L' O' n m)(hn:n≤n')(hm:m≤m'):Dx W p s L O s' L' O' n' m':=
 ⟨h.x,h.fr,h.gr,h.S,h.F,h.A,h.q,by have:=h.nF;omega,by have:=h.nS;omega⟩
theorem Dx.weak{W:List Nat}{p:Nat}{s s':CO}{L L':LG}{O O':List Nat}{n m:Nat}(h:Dx [] p s L O s' L' O' n m):Dx W p s L O s' L' O' n m:=
 ⟨h.x,h.fr.sub fun j hj=>A8q.2 (.inr (by simpa using hj)),h.gr,h.S,h.F,h.A,h.q,h.nF,h.nS⟩
theorem Dx.keep{W:List Nat}{p:Nat}{s s':CO}{L L':LG}{O O':List Nat}{n m:Nat}(h:Dx W p s L O s' L' O' n m){j:Nat}(hj:j<s.next)(hW:j ∉ W)(hO:j ∉ O):s'.heap.get j=s.heap.get j:=
 h.fr.2 j hj fun hm=>(A8q.1 hm).elim hW hO
theorem Dx.out{W:List Nat}{p:Nat}{s s':CO}{L L':LG}{O O':List Nat}{n m:Nat}(h:Dx W p s L O s' L' O' n m){j:Nat}(hj:j<s.next)(hO:j ∉ O):j ∉ O':=fun hm=>(h.gr j hm).elim hO fun e=>by omega
theorem Dx.nx{W:List Nat}{p:Nat}{s s':CO}{L L':LG}{O O':List Nat}{n m:Nat}(h:Dx W p s L O s' L' O' n m):s.next≤s'.next:=h.fr.1
theorem LG.pos{F:List Fm}(h:HH F):0<F.length:=by have:=h.rg;omega
section
variable{s:CO}{p:Nat}{L:LG}{O:List Nat}
theorem DG.kids(h:DG s p L O):F3 L.F:=fun i f hi=>(h.ok i f hi).kids
theorem DG.nots(h:DG s p L O):WS L.F:=fun f hf hk=>by
 obtain⟨i,hi⟩:=List.mem_iff_getElem?.1 hf
 exact(h.ok i f hi).not hk
theorem Dx.mk1{s':CO}{O':List Nat}(h:Lx s p L O)(m:Mk)(hm:∀f,m=.put f→f.kind=4→f.rest=Mf f.kids)(k:DG s' p ⟨L.S,m.fs L.F,L.A,L.q⟩ O')(f:Eb O s s')(g:DR O O' s):Dx [] p s L O s' ⟨L.S,m.fs L.F,L.A,L.q⟩ O' 1 0:=by
 refine⟨⟨k,h.two.pre (Mk.pre _ _),?_,h.glob.step f g⟩,by simpa using f,g,A8h _,Mk.pre _ _,rfl,rfl,?_,A8H _⟩
 ·cases m with
  | old n=>exact h.rest
  | put f=>exact h.rest.push (hm f rfl)
 ·cases m with
  | old n=>exact A8s _
  | put f=>exact Tw
end
section
variable{E:Dw}(hE:Cn E){s:CO}{p:Nat}{L:LG}{O:List Nat}(h:Lx s p L O){K:AV→CO→Prop}
include hE h
theorem LQ(hK:K (.ptr (some (L.q,0))) s):WF E 7 [.ptr (some (p,0))] K s:=by
 obtain⟨q,fv,mf,av,mk,X,OS,OB,OA,e⟩:=h.at_.ex
 have hq:=e.qe
 subst hq
 refine hE.go A5Y (by decide) rfl ?_
 simp only[c7,A5I,A5J,A5K,A5L,Gy,e.obj,OJ,Ho,Qa,Qb,QS,Wg]
 exact hK
variable(hF:L.F.length<1000000)(hS:L.S.length<99990)
include hF hS
theorem A6g{n:Nat}(hn:n<6){t:Tm}(ht:t∈L.S)(hK:∀s' L' O' v,Dx [] p s L O s' L' O' 1 0→L'.S=L.S→Av L'.F (Eh L.S n t) v→K (iv v) s'):WF E 16 [.ptr (some (p,0)),iv n,iv (ix L.S t:Int)] K s:=
 A3d hE h.at_ hF hS h.glob hn ht fun s' O' g1 g2 g3=>hK s' _ O' _ (Dx.mk1 h (.put (Eh L.S n t)) (fun f hf hk=>by
  injection hf with hf
  subst hf
  unfold Eh at hk
  split at hk
  ·simp only[ER]at hk;split at hk<;>omega
  ·simp only[Fi]at hk;omega) g1 g2 g3) rfl (Av.of _ _)
theorem eqX{t u:Tm}(ht:t∈L.S)(hu:u∈L.S)(hK:∀s' L' O' v,Dx [] p s L O s' L' O' 1 0→L'.S=L.S→Av L'.F (FH L.S t u) v→K (iv v) s'):WF E 12 [.ptr (some (p,0)),iv (ix L.S t:Int),iv (ix L.S u:Int)] K s:=
  A0g hE h.at_ hF hS h.glob ht hu fun s' O' g1 g2 g3=>hK s' _ O' _ (Dx.mk1 h (.put (FH L.S t u)) (fun f hf hk=>by
    injection hf with hf
    subst hf
    unfold FH at hk
    split at hk
    · simp only[ER]at hk;split at hk<;>omega
    · split at hk
      · simp only[ER]at hk;split at hk<;>omega
      · split at hk<;>(simp only[Fi]at hk;omega)) g1 g2 g3) rfl (Av.of _ _)
theorem A6U{d k:Tm}(hd:d∈L.S)(hk:k∈L.S)(hK:∀s' L' O' v,Dx [] p s L O s' L' O' 1 0→L'.S=L.S→Av L'.F (FC L.S d k) v→K (iv v) s'):WF E 19 [.ptr (some (p,0)),iv (ix L.S d:Int),iv (ix L.S k:Int)] K s:=
 A3H hE h.at_ hF hS h.glob hd hk fun s' O' g1 g2 g3=>hK s' _ O' _ (Dx.mk1 h (.put (FC L.S d k)) (fun f hf hk=>by
  injection hf with hf
  subst hf
  unfold FC at hk
  split at hk
  ·simp only[ER]at hk;split at hk<;>omega
  ·simp only[Fi]at hk;omega) g1 g2 g3) rfl (Av.of _ _)
theorem SG{x:Int}(hx:0≤x∧x<L.F.length)(hK:∀s' L' O' v,Dx [] p s L O s' L' O' 1 0→L'.S=L.S→Nv L'.F x v→K (iv v) s'):WF E 15 [.ptr (some (p,0)),iv x] K s:=by
  have hx64:i64 x:=by unfold i64;omega
  refine A3Q hE h.at_ hF hS (LG.pos h.two) h.glob hx64 fun s' O' g1 g2 g3=>?_
  rw[Gh hx]at g1 ⊢
  refine hK s' _ O' _ (Dx.mk1 h (Gi L.F x) (fun f hf hk=>?_) g1 g2 g3) rfl (Nv.of hx)
  unfold Gi at hf
  split at hf
  · injection hf with hf
    subst hf
    simp only[ER]at hk;split at hk<;>omega
  · split at hf
    · cases hf
    · injection hf with hf
      subst hf
      rfl
end
def N7:List Nat:=[111,114]
structure Ov(F:List Fm)(c:List Int)(n:Int):Prop where
 rg:∀x∈c,0≤x∧x<F.length
 fs:(EH F 3 N7 c).fs F=F
 num:n=(EH F 3 N7 c).num F
theorem Ov.of{F:List Fm}(h0:0<F.length)(hk:F3 F){c:List Int}(hc:∀x∈c,0≤x∧x<F.length):Ov ((EH F 3 N7 c).fs F) c ((EH F 3 N7 c).num F):=by
 have hp:=Mk.pre F (EH F 3 N7 c)
 have h:=Mk.stay (A8h ((EH F 3 N7 c).fs F))
 have hl:=GM hp
 have he:=R6 hp h0 hk (kind:=3) (name:=N7) hc
 refine⟨fun x hx=>?_,?_,?_⟩
 ·have:=hc x hx;omega
 ·rw[he];exact h.1
 ·rw[he];exact h.2.symm
theorem Ov.pre{F F':List Fm}{c:List Int}{n:Int}(h:Ov F c n)(h0:0<F.length)(hk:F3 F)(k:F <+: F'):Ov F' c n:=by
 have hl:=GM k
 have h1:=R6 k h0 hk (kind:=3) (name:=N7) h.rg
 have h2:=Mk.stay (m:=EH F 3 N7 c) (F:=F) (F2:=F') (by rw[h.fs];exact k)
 refine⟨fun x hx=>?_,by rw[h1];exact h2.1,by rw[h1,h2.2];exact h.num⟩
 have:=h.rg x hx;omega
theorem Ov.eq{F:List Fm}{c:List Int}{n m:Int}(h:Ov F c n)(k:Ov F c m):n=m:=by rw[h.num,k.num]
section
variable{E:Dw}(hE:Cn E){s:CO}{p:Nat}{L:LG}{O:List Nat}(h:Lx s p L O){K:AV→CO→Prop}(hF:L.F.length<1000000)(hS:L.S.length<99990)
include hE h hF hS
theorem Xh(F:List Fm)(c:List Int):∀f,EH F 3 N7 c=.put f→f.kind=3:=by
  intro f hf
  unfold EH at hf
  simp only[show ¬ ((3:Int)=2)from by omega,if_false]at hf
  split at hf
  · cases hf
  · split at hf
    · cases hf
    · split at hf
      · cases hf
      · cases hf
      · injection hf with hf
        subst hf
        rfl
theorem A8F{c:List Int}{cv:AV}(hrd:Cl s cv c)(hsf:∀j,EQ cv=some j→j ∉ O)(hc:∀x∈c,0≤x∧x<L.F.length)(hfl:(EY L.F 3 c).length≤1000)(hcl:c.length≤1000)(hK:∀s' L' O' v,Dx [] p s L O s' L' O' 1 0→L'.S=L.S→Ov L'.F c v→K (iv v) s'):
  WF E 18 [.ptr (some (p,0)),cv] K s:=by
 refine hE.go A1Z (by decide) rfl ?_
 simp only[A6w,vR,vS,vT,Gy,Qa,Qb,QS]
 refine tE hE h.at_ hF (by omega) h.two h.glob hrd hsf hfl (fun x hx=>by have:=hc x hx;unfold i64;omega) (.inr rfl) (by decide) (by omega) fun s' O' g1 g2 g3=>?_
 simp only[QS]
 exact hK s' _ O' _ (Dx.mk1 h (EH L.F 3 N7 c) (fun f hf hk=>by have:=Xh hE h hF hS L.F c f hf;omega) g1 g2 g3) rfl (Ov.of (LG.pos h.two) h.at_.kids hc)
end
section
variable{E:Dw}(hE:Cn E){s:CO}{p:Nat}{L:LG}{O:List Nat}(h:Lx s p L O){K:AV→CO→Prop}(hS:L.S.length<99990)
include hE h hS
theorem Dx.tm{s':CO}{OS OS':List Nat}{S':List Tm}{fv:AV}{mf:Nat}{av:AV}{mk:Nat}{X:List (List AV×List Nat)}{OB OA:List Nat}(e:GQ s p L O L.q fv mf av mk X OS OB OA)(ht:DD s' L.q S' OS')(hf:Eb OS s s')(hg:DR OS OS' s)(hp:L.S <+: S')(hl:S'.length≤L.S.length+1):
  ∃O',Dx [] p s L O s' ⟨S',L.F,L.A,L.q⟩ O' 0 1:=by
 obtain⟨O',k1,k2,k3,_⟩:=h.at_.term e ht hf hg hp.length_le
 exact⟨O',⟨k1,h.two,h.rest,h.glob.step k2 k3⟩,by simpa using k2,k3,hp,A8h _,rfl,rfl,A8H _,hl⟩
end
end
end Go.Proofs.YtoaaclpjkelofaaGreatDoor.Am
set_option linter.all false
set_option maxRecDepth 20000
namespace Go.Proofs.YtoaaclpjkelofaaGreatDoor.Am
open Go Go.Proofs
noncomputable section
open Tryz
theorem dy{S:List Tm}{l:List Tm}(h:∀t∈l,t∈S):Kg S.length S (l.map fun t=>(ix S t:Int))=S:=qF fun x hx=>by
 obtain⟨t,ht,rfl⟩:=List.mem_map.1 hx
 exact(Lp (h t ht)).2
section
variable{E:Dw}(hE:Cn E){s:CO}{p:Nat}{L:LG}{O:List Nat}(h:Lx s p L O){K:AV→CO→Prop}(hS:L.S.length<99990)
include hE h hS
theorem A6j{i:Int}(hi:i64 i)(hK:∀s' L' O',Dx [] p s L O s' L' O' 0 1→L'.F=L.F→L'.S=push L.S (.var i)→K (iv (ix L'.S (.var i):Int)) s'):WF E 8 [.ptr (some (L.q,0)),iv i] K s:=by
 obtain⟨q,fv,mf,av,mk,X,OS,OB,OA,e⟩:=h.at_.ex
 have hq:=e.qe
 subst hq
 refine uH hE e.terms (by omega) hi fun s' OS' g1 g2 g3=>?_
 obtain⟨O',k⟩:=Dx.tm hE h hS e g1 g2 g3 (Lj _ _) Ic
 exact hK s' _ O' k rfl rfl
theorem A6T{n:Nat}(hn:n<13)(hK:∀s' L' O',Dx [] p s L O s' L' O' 0 1→L'.F=L.F→L'.S=push L.S (.con n)→K (iv (ix L'.S (.con n):Int)) s'):WF E 9 [.ptr (some (L.q,0)),.agg (Tm.con n).cells] K s:=by
 obtain⟨q,fv,mf,av,mk,X,OS,OB,OA,e⟩:=h.at_.ex
 have hq:=e.qe
 subst hq
 refine dx hE e.terms (by omega) hn (e.tm h.glob) fun s' OS' g1 g2 g3=>?_
 obtain⟨O',k⟩:=Dx.tm hE h hS e g1 g2 g3 (Lj _ _) Ic
 exact hK s' _ O' k rfl rfl
theorem A6Y{d k:Tm}(hd:d∈L.S)(hk:k∈L.S)(hK:∀s' L' O',Dx [] p s L O s' L' O' 0 1→L'.F=L.F→L'.S=push L.S (.sel d k)→K (iv (ix L'.S (.sel d k):Int)) s'):WF E 13 [.ptr (some (L.q,0)),iv (ix L.S d:Int),iv (ix L.S k:Int)] K s:=by
 obtain⟨q,fv,mf,av,mk,X,OS,OB,OA,e⟩:=h.at_.ex
 have hq:=e.qe
 subst hq
 have hth:Kg L.S.length L.S [(ix L.S d:Int),(ix L.S k:Int)]=L.S:=dy (l:=[d,k]) (by simp[hd,hk])
 refine A3Y hE e.terms hS (e.tm h.glob) fun s' OS' g1 _ g2 g3=>?_
 rw[hth,(Lp hd).1,(Lp hk).1]at g1 ⊢
 obtain⟨O',k⟩:=Dx.tm hE h hS e g1 g2 g3 (Lj _ _) Ic
 exact hK s' _ O' k rfl rfl
theorem A6i{d k a:Tm}(hd:d∈L.S)(hk:k∈L.S)(ha:a∈L.S)(hK:∀s' L' O',Dx [] p s L O s' L' O' 0 1→L'.F=L.F→L'.S=push L.S (.upd d k a)→K (iv (ix L'.S (.upd d k a):Int)) s'):WF E 10 [.ptr (some (L.q,0)),iv (ix L.S d:Int),iv (ix L.S k:Int),iv (ix L.S a:Int)] K s:=by
 obtain⟨q,fv,mf,av,mk,X,OS,OB,OA,e⟩:=h.at_.ex
 have hq:=e.qe
 subst hq
 have hth:Kg L.S.length L.S [(ix L.S d:Int),(ix L.S k:Int),(ix L.S a:Int)]=L.S:=dy (l:=[d,k,a]) (by simp[hd,hk,ha])
 refine A3h hE e.terms hS (e.tm h.glob) fun s' OS' g1 _ g2 g3=>?_
 rw[hth,(Lp hd).1,(Lp hk).1,(Lp ha).1]at g1 ⊢
 obtain⟨O',k⟩:=Dx.tm hE h hS e g1 g2 g3 (Lj _ _) Ic
 exact hK s' _ O' k rfl rfl
theorem A3O{t:Tm}(ht:t∈L.S)(hK:∀s',DL s.next s s'→K (iv t.kind) s'):WF E 35 [.ptr (some (L.q,0)),iv (ix L.S t:Int)] K s:=by
 obtain⟨q,fv,mf,av,mk,X,OS,OB,OA,e⟩:=h.at_.ex
 have hq:=e.qe
 subst hq
 exact La hE e.terms ht hK
theorem A3N{t:Tm}(ht:t∈L.S)(hK:∀v s',DL s.next s s'→Cl s' v (Ew L.S t)→K v s'):WF E 14 [.ptr (some (L.q,0)),iv (ix L.S t:Int)] K s:=by
 obtain⟨q,fv,mf,av,mk,X,OS,OB,OA,e⟩:=h.at_.ex
 have hq:=e.qe
 subst hq
 exact sr hE e.terms ht hK
theorem A6X:QI L.S:=by
 obtain⟨q,fv,mf,av,mk,X,OS,OB,OA,e⟩:=h.at_.ex
 exact e.terms.ok
end
end
end Go.Proofs.YtoaaclpjkelofaaGreatDoor.Am
set_option linter.all false
set_option maxHeartbeats 1000000
set_option maxRecDepth 20000
namespace Go.Proofs.YtoaaclpjkelofaaGreatDoor.Am
open Go Go.Proofs
noncomputable section
open Tryz
theorem Un.z{s:CO}{lc:List AV}{x:Option (Rat×List (Int×Rat))}{xo:List Nat}(h:Un s lc x xo):lc=KE:=by
 cases x with
 | none=>exact h
 | some=>exact h.elim
theorem V0(i o:Nat):Ch prog .neq 24 (.ptr (some (i,o))) (.ptr none)=some (.bool true):=by kernel_rfl
section
variable{E:Dw}(hE:Cn E){s:CO}{p:Nat}{L:LG}{O:List Nat}(hL:DG s p L O)(h0:0<L.F.length){K:AV→CO→Prop}
include hE hL h0
theorem Oe{x:Int}(hx:i64 x)(hK:∀s' kv,DL s.next s s'→Cl s' kv (CP L.F x).kids→K (.agg (F7 (CP L.F x) (kv::KE))) s'):WF E 111 [.ptr (some (p,0)),iv x] K s:=by
 obtain⟨q,mf,av,mk,j,i,r,y,OS,hobj,hp,hj,hi,hix,hr,hy,hn13,hld,hok,hget,hyO⟩:=LY hE hL (x:=x) h0
 obtain⟨kv,lc,hy6,hkd,hks,hlx⟩:=hy.ex
 have hz:=hlx.z
 subst hz
 rw[hy6]at hn13
 have hn13':EV (s.heap.get j) (i * 13) 13=some (F7 (CP L.F x) (kv::KE)):=by rw[hr];exact hn13
 have hent:F7 (CP L.F x) (kv::KE)=[iv (CP L.F x).kind,iv (CP L.F x).num,iv (CP L.F x).p0,iv (CP L.F x).p1,.str (CP L.F x).rest,kv,.bool false,.slice none 0 (some 0),.slice none 0 (some 0),.slice none 0 (some 0),.slice none 0 (some 0),iv (CP L.F x).size,.str (CP L.F x).text]:=rfl
 rw[hent]at hn13'
 have hK':=fun s' ho=>hK s' kv ho
 rw[hent]at hK'
 have hkc:=FZ hkd
 refine hE.go rZ (by decide) rfl ?_
 have e1:=Cj (P:=prog) (cap:=none) (i:=j) (o:=0) underlying46 Ny hi
 generalize hs:s.next=b at hp hj
 have hs0:s=ext s []:=(Ca s).symm
 have hobE:∀os,(ext s os).heap.get p=some (R 49 0 false [.ptr (some (q,0)),.slice (some (j,0)) L.F.length none,.map (some mf),av,.map (some mk)]):=fun os=>by rw[Cm (by omega)];exact hobj
 have h13E:∀os,EV ((ext s os).heap.get j) (i * 13) 13=some [iv (CP L.F x).kind,iv (CP L.F x).num,iv (CP L.F x).p0,iv (CP L.F x).p1,.str (CP L.F x).rest,kv,.bool false,.slice none 0 (some 0),.slice none 0 (some 0),.slice none 0 (some 0),.slice none 0 (some 0),iv (CP L.F x).size,.str (CP L.F x).text]:=fun os=>by rw[Cm (by omega)];exact hn13'
 have hend:∀ (z:AV),Qb E Y5 (fun v s'=>Jj (EL s' []) fun s'=>Jj (Dj prog s' v [(CX.var 2,some 86)]) fun l=>K (DO l) s') [] [.ptr (some (p,0)),iv (i:Int),.ptr (some (nid b 0,0)),z] (ext s [R 86 0 false [iv 0,iv 0,iv 0,iv 0,.str [],.slice none 0 (some 0),.bool false,.slice none 0 (some 0),.slice none 0 (some 0),.slice none 0 (some 0),.slice none 0 (some 0),iv 0,.str []]]):=by
  intro z
  simp only[Y5,hs,hobE,h13E,GS,Lq,qo,Ny,e1,hkc,FF,Qb,QS,Wg,Nat.reduceAdd]
  exact hK' _ Ci (hkd.old Ci)
 rw[hs0]
 simp only[A4U,je,jg,hs,uS,Qa,Qb,QS,Wg]
 by_cases hx0:x<0
 ·have hix2:(i:Int)=0:=by rw[hix];unfold N8;rw[if_neg (by omega)]
  rw[hix2]at hend
  simp only[hx0,A9Z,Y4,Qb,QS]
  exact hend _
 ·simp only[hx0,A9a,QS,Wg]
  by_cases h1:(L.F.length:Int)≤x
  ·have hix2:(i:Int)=0:=by rw[hix];unfold N8;rw[if_neg (by omega)]
   rw[hix2]at hend
   simp only[hobE,GS,Lq,DQ underlying46,h1,A9Z,Y4,Qb,QS,Wg]
   exact hend _
  ·have hix2:(i:Int)=x:=by rw[hix];exact Gh (by omega)
   rw[hix2]at hend
   simp only[hobE,GS,Lq,DQ underlying46,h1,A9a,QS,Wg]
   exact hend _
end
section
variable{E:Dw}(hE:Cn E){s:CO}{v:AV}{l:List Int}(hv:Cl s v l)(hl:l.length≤1000000){g:FuncId}{fs cs:List AV}(P:Int→Bool)
  (hf:∀y∈l,∀ (s1:CO) (K:AV→CO→Prop),DL s.next s s1→(∀s2,DL s1.next s1 s2→K (.bool (P y)) s2)→WF E g (fs++([iv y]++cs)) K s1) (hP:l.any P=false)
include hE hv hl hf hP
theorem XA{K:AV→CO→Prop}(hK:∀s',DL s.next s s'→K v s'):WF E 100 [v,.func g fs cs] K s:=by
 refine hE.go rO (by decide) rfl ?_
 simp only[A4I,iz,i7,Qa,Qb,QS]
 refine hE.go cU (by decide) rfl ?_
 have hlen:=hv.len
 simp only[A1I,Y9,ZA,hlen,Qa,Qb,QS]
 refine NM hE hv hl P hf _ l [] s _ _ _ rfl (fun y hy=>by cases hy) (DL.refl _ _) (fun S' y3 y5 y6 y7 ho ha=>?_) (fun S' i y3 y5 y6 y7 ho ha=>by rw[hP]at ha;cases ha)
 simp only[QS]
 rw[if_pos trivial]
 simp only[ZC,jA,jB,Wd,A9Z,Qb,QS]
 exact hK S' ho
end
theorem A3P{E:Dw}(hE:Cn E){s:CO}{y:Int}{K:AV→CO→Prop}(hK:K (.bool (decide (y<0))) s):WF E 101 [iv y] K s:=by
 refine hE.go rP (by decide) rfl ?_
 simp only[A4J,jC,jD,Rz,Qa,Qb,QS]
 exact hK
section
variable{E:Dw}(hE:Cn E){s:CO}{p:Nat}{L:LG}{O:List Nat}(hL:DG s p L O)(h0:0<L.F.length){K:AV→CO→Prop}
include hE hL h0
theorem Tx{x:Int}(hx:i64 x)(hK:∀s',DL s.next s s'→K (iv (CP L.F x).kind) s'):WF E 31 [.ptr (some (p,0)),iv x] K s:=by
 refine hE.go A1h (by decide) rfl ?_
 simp only[A7E,wJ,wK,Qa,Qb,QS]
 refine hE.go A2H (by decide) rfl ?_
 simp only[A7e,yj,yk,yl,V0,Qa,Qb,QS]
 refine Oe hE hL h0 hx fun s1 kv ho hkd=>?_
 have hent:F7 (CP L.F x) (kv::KE)=[iv (CP L.F x).kind,iv (CP L.F x).num,iv (CP L.F x).p0,iv (CP L.F x).p1,.str (CP L.F x).rest,kv,.bool false,.slice none 0 (some 0),.slice none 0 (some 0),.slice none 0 (some 0),.slice none 0 (some 0),iv (CP L.F x).size,.str (CP L.F x).text]:=rfl
 rw[hent]
 have hkc:=FZ hkd
 generalize hs:s1.next=b
 have hs0:s1=ext s1 []:=(Ca s1).symm
 rw[hs0]
 simp only[QS,Wg]
 refine hE.go A2I (by decide) rfl ?_
 simp only[A7f,yo,yq,hs,JH,J0,Ee,Qa,Qb,QS,Wg]
 simp only[yn,Qb,QS]
 exact hK _ (ho.trans ((Ci (s:=s1)).mono ho.1))
theorem Z7{x:Int}(hx:i64 x)(hk:6≤(CP L.F x).kind)(h1:0≤(CP L.F x).p0)(h2:0≤(CP L.F x).p1)
  (hK:∀j s',DL s.next s s'→s'.heap.get j=some (R 3 1 true (Dv [(CP L.F x).p0,(CP L.F x).p1]))→s.next≤j→j<s'.next→K (.slice (some (j,0)) 2 none) s'):WF E 63 [.ptr (some (p,0)),iv x] K s:=by
 refine hE.go A2B (by decide) rfl ?_
 simp only[A7Y,yJ,yK,Qa,Qb,QS]
 refine hE.go A2V (by decide) rfl ?_
 simp only[A7r,zq,zr,zs,V0,Qa,Qb,QS]
 refine Oe hE hL h0 hx fun s1 kv ho hkd=>?_
 have hent:F7 (CP L.F x) (kv::KE)=[iv (CP L.F x).kind,iv (CP L.F x).num,iv (CP L.F x).p0,iv (CP L.F x).p1,.str (CP L.F x).rest,kv,.bool false,.slice none 0 (some 0),.slice none 0 (some 0),.slice none 0 (some 0),.slice none 0 (some 0),iv (CP L.F x).size,.str (CP L.F x).text]:=rfl
 rw[hent]
 have hkc:=FZ hkd
 generalize hs:s1.next=b
 have hs0:s1=ext s1 []:=(Ca s1).symm
 have d6:decide ((CP L.F x).kind<6)=false:=decide_eq_false (by omega)
 rw[hs0]
 simp only[QS,Wg]
 refine hE.go A2W (by decide) rfl ?_
 simp only[A7s,zu,zv,zw,hs,JH,J0,nM,Ee,d6,di,Qa,Qb,QS,Wg]
 have hn1:(ext s1 [R 86 0 false [iv (CP L.F x).kind,iv (CP L.F x).num,iv (CP L.F x).p0,iv (CP L.F x).p1,.str (CP L.F x).rest,kv,.bool false,.slice none 0 (some 0),.slice none 0 (some 0),.slice none 0 (some 0),.slice none 0 (some 0),iv (CP L.F x).size,.str (CP L.F x).text]]).next=b+1:=by rw[Ce,hs,CN];rfl
 have g1:(ext s1 [R 86 0 false [iv (CP L.F x).kind,iv (CP L.F x).num,iv (CP L.F x).p0,iv (CP L.F x).p1,.str (CP L.F x).rest,kv,.bool false,.slice none 0 (some 0),.slice none 0 (some 0),.slice none 0 (some 0),.slice none 0 (some 0),iv (CP L.F x).size,.str (CP L.F x).text]]).heap.get (nid b 0)=some (R 86 0 false [iv (CP L.F x).kind,iv (CP L.F x).num,iv (CP L.F x).p0,iv (CP L.F x).p1,.str (CP L.F x).rest,kv,.bool false,.slice none 0 (some 0),.slice none 0 (some 0),.slice none 0 (some 0),.slice none 0 (some 0),iv (CP L.F x).size,.str (CP L.F x).text]):=by rw[CR hs (by simp)];rfl
 have ho1:DL s1.next s1 (ext s1 [R 86 0 false [iv (CP L.F x).kind,iv (CP L.F x).num,iv (CP L.F x).p0,iv (CP L.F x).p1,.str (CP L.F x).rest,kv,.bool false,.slice none 0 (some 0),.slice none 0 (some 0),.slice none 0 (some 0),.slice none 0 (some 0),iv (CP L.F x).size,.str (CP L.F x).text]]):=Ci
 generalize ext s1 [R 86 0 false _]=s2 at hn1 g1 ho1
 have hrd:Cl s2 (.slice (some (nid b 0,2)) 2 (some 2)) [(CP L.F x).p0,(CP L.F x).p1]:=.inr ⟨nid b 0,2,some 2,rfl,by rw[hn1,CN];omega,by rw[g1];rfl⟩
 refine Oy hE hrd (by simp) (by simp) ?_
 have ho3:DL s2.next s2 (ext s2 [R 3 1 false [],R 3 1 true (Dv [(CP L.F x).p0,(CP L.F x).p1])]):=Ci
 have g3:(ext s2 [R 3 1 false [],R 3 1 true (Dv [(CP L.F x).p0,(CP L.F x).p1])]).heap.get (nid s2.next 1)=some (R 3 1 true (Dv [(CP L.F x).p0,(CP L.F x).p1])):=by rw[CR rfl (by simp)];rfl
 have hn3:(ext s2 [R 3 1 false [],R 3 1 true (Dv [(CP L.F x).p0,(CP L.F x).p1])]).next=b+3:=by rw[Ce,hn1,CN];rfl
 generalize ext s2 [R 3 1 false [],R 3 1 true (Dv [(CP L.F x).p0,(CP L.F x).p1])]=s3 at ho3 g3 hn3
 have hrd3:Cl s3 (.slice (some (nid s2.next 1,0)) [(CP L.F x).p0,(CP L.F x).p1].length none) [(CP L.F x).p0,(CP L.F x).p1]:=.inr ⟨nid s2.next 1,0,none,rfl,by rw[hn1,hn3,CN];omega,by rw[g3];exact D3 (A8H _)⟩
 simp only[QS,Wg,Nat.reduceAdd]
 refine XA hE hrd3 (by simp) (fun y=>decide (y<0)) (fun y hy s4 K4 h4 k4=>A3P hE (k4 s4 (DL.refl _ _))) (by simp;omega) fun s5 ho5=>?_
 simp only[zt,Qb,QS,Wg,Nat.reduceAdd]
 have ho':DL s.next s s5:=ho.trans ((ho1.trans ((ho3.mono ho1.1).trans (ho5.mono (A8Z ho1.1 ho3.1)))).mono ho.1)
 have hlo:s.next≤nid s2.next 1:=by rw[CN];have:=ho.1;omega
 have hlt:nid s2.next 1<s3.next:=by rw[CN];omega
 exact hK _ s5 ho' ((ho5.2 _ hlt).trans g3) hlo (A8L hlt ho5.1)
end
theorem pC(xs:List AV)(s:CO):Ig 104 xs s=Tz s xs:=by
 have h2:Ig 104 xs s=(match Tz s xs with | some p=>some p | none=>none):=rfl
 rw[h2]
 cases Tz s xs<;>rfl
theorem bI:Cd prog 168 1 (zipIdx [0] [.agg [.bool false,.slice none 0 (some 0),.slice none 0 (some 0),.slice none 0 (some 0),.slice none 0 (some 0)]])=some PA:=iH
theorem iI:sameO PA PA=true:=by kernel_rfl
theorem fk{E:Dw}(hE:Cn E){s:CO}{j:Nat}(hj:s.heap.get j=some PA){K:AV→CO→Prop}(hK:K (.agg [.bool false,.slice none 0 (some 0),.slice (some (s.next,0)) 1 none,.slice none 0 (some 0),.slice none 0 (some 0)]) (newObj s (.row (TA [1])))):WF E 104 [.slice (some (j,0)) 1 (some 1)] K s:=by
 refine WF.native (hE.tab _ _ _ _ ?_) hK
 rw[pC]
 show(match s.heap.get j with | some o=>CU (sameO o PA) _ | none=>none)=_
 rw[hj]
 show CU (sameO PA PA) _=_
 rw[iI]
 rfl
section
variable{E:Dw}(hE:Cn E){s:CO}{p:Nat}{L:LG}{O:List Nat}(hL:DG s p L O)(h0:0<L.F.length){K:AV→CO→Prop}
include hE hL h0
theorem oM{x:Int}(hx:i64 x)(hK:∀d s',DL s.next s s'→K (.agg [.bool false,.slice none 0 (some 0),d,.slice none 0 (some 0),.slice none 0 (some 0)]) s'):WF E 64 [.ptr (some (p,0)),iv x] K s:=by
 refine hE.go A2C (by decide) rfl ?_
 generalize hs:s.next=b
 have hs0:s=ext s []:=(Ca s).symm
 have hoA:∀os,DL s.next s (ext s os):=fun os=>Ci
 rw[hs0]
 simp only[A7Z,yL,yM,A3l,hs,Qa,Qb,QS,Wg]
 refine hE.go rR (by decide) rfl ?_
 simp only[A4K,jE,jF,jG,V0,A3l,hs,Qa,Qb,QS,Wg]
 refine Oe hE (hL.old (hoA _)) h0 hx fun s1 kv ho hkd=>?_
 have hent:F7 (CP L.F x) (kv::KE)=[iv (CP L.F x).kind,iv (CP L.F x).num,iv (CP L.F x).p0,iv (CP L.F x).p1,.str (CP L.F x).rest,kv,.bool false,.slice none 0 (some 0),.slice none 0 (some 0),.slice none 0 (some 0),.slice none 0 (some 0),iv (CP L.F x).size,.str (CP L.F x).text]:=rfl
 rw[hent]
 have hkc:=FZ hkd
 have l13:([iv (CP L.F x).kind,iv (CP L.F x).num,iv (CP L.F x).p0,iv (CP L.F x).p1,.str (CP L.F x).rest,kv,.bool false,.slice none 0 (some 0),.slice none 0 (some 0),.slice none 0 (some 0),.slice none 0 (some 0),iv (CP L.F x).size,.str (CP L.F x).text]:List AV).length=13:=rfl
 have ho0:DL s.next s s1:=(Ci (s:=s)).trans (ho.mono (Ci (s:=s)).1)
 have gb0:s1.heap.get (nid b 0)=some (R 84 0 false HX):=by rw[ho.2 _ (by rw[Ce,hs,CN,CN];simp),CR hs (by simp)];rfl
 have gb1:s1.heap.get (nid b 1)=some (R 84 0 false HX):=by rw[ho.2 _ (by rw[Ce,hs,CN,CN];simp),CR hs (by simp)];rfl
 have hb2:b+2≤s1.next:=by have:=ho.1;rw[Ce,hs,CN]at this;simpa using this
 generalize hc:s1.next=c at hb2
 have hs10:s1=ext s1 []:=(Ca s1).symm
 rw[hs10]
 simp only[QS,Wg]
 refine hE.go rS (by decide) rfl ?_
 simp only[A4L,jI,jJ,hc,A2y,A4F,A5s,A3l,bI,Qa,Qb,QS,Wg,Nat.reduceAdd,Nat.reduceLT,Nat.reduceLeDiff]
 have oC:∀ (os:List Cg),DL s1.next s1 (ext s1 os):=fun os=>Ci
 generalize hos:[R 86 0 false [iv (CP L.F x).kind,iv (CP L.F x).num,iv (CP L.F x).p0,iv (CP L.F x).p1,.str (CP L.F x).rest,kv,.bool false,.slice none 0 (some 0),.slice none 0 (some 0),.slice none 0 (some 0),.slice none 0 (some 0),iv (CP L.F x).size,.str (CP L.F x).text],R 84 0 false [.bool false,.slice none 0 (some 0),.slice none 0 (some 0),.slice none 0 (some 0),.slice none 0 (some 0)],PA]=os
 have g2:(ext s1 os).heap.get (nid c 2)=some PA:=by rw[← hos,CR hc (by simp)];rfl
 have g1:(ext s1 os).heap.get (nid c 1)=some (R 84 0 false HX):=by rw[← hos,CR hc (by simp)];rfl
 have hn3:(ext s1 os).next=c+3:=by rw[← hos,Ce,hc,CN];rfl
 have o1:=oC os
 generalize ext s1 os=s2 at g1 g2 hn3 o1
 refine fk hE g2 ?_
 have o2:DL s2.next s2 (newObj s2 (.row (TA [1]))):=DL.new _ _
 have q1:(newObj s2 (.row (TA [1]))).heap.get (nid c 1)=some (R 84 0 false HX):=by rw[o2.2 _ (by rw[hn3,CN];omega)];exact g1
 have p0:(newObj s2 (.row (TA [1]))).heap.get (nid b 0)=some (R 84 0 false HX):=by rw[o2.2 _ (by rw[hn3,CN];omega),o1.2 _ (by rw[CN];omega)];exact gb0
 have p1:(newObj s2 (.row (TA [1]))).heap.get (nid b 1)=some (R 84 0 false HX):=by rw[o2.2 _ (by rw[hn3,CN];omega),o1.2 _ (by rw[CN];omega)];exact gb1
 have o3:DL s.next s (newObj s2 (.row (TA [1]))):=ho0.trans ((o1.trans (o2.mono o1.1)).mono ho0.1)
 rw[hn3]
 generalize newObj s2 (.row (TA [1]))=s3 at q1 p0 p1 o3
 have n1:nid c 1≠nid b 0:=by rw[CN,CN];omega
 have n2:nid c 1≠nid b 1:=by rw[CN,CN];omega
 have n3:nid b 1≠nid b 0:=by rw[CN,CN];omega
 unfold HX at q1 p0 p1
 simp only[jH,A4F,A5s,q1,FF,p0,p1,CS _ (Ne.symm n1),CS _ (Ne.symm n2),CS _ (Ne.symm n3),Qb,QS,Wg,Nat.reduceAdd]
 exact hK _ _ ((((o3.set (by rw[CN];omega) _).set (by rw[CN];omega) _).set (by rw[CN];omega) _).set (by rw[CN];omega) _)
end
theorem Xq(xs:List AV)(s:CO):Ig 73 xs s=KP s xs:=by
 have h2:Ig 73 xs s=(match KP s xs with | some p=>some p | none=>none):=rfl
 rw[h2]
 cases KP s xs<;>rfl
section
variable{E:Dw}(hE:Cn E){s:CO}{p:Nat}{L:LG}{O:List Nat}(hL:DG s p L O)(h0:0<L.F.length)(hSm:L.S.length≤1000000){K:AV→CO→Prop}
include hE hL h0 hSm
theorem Xf{x:Int}(hx:0≤x∧x<L.F.length)(hk:(CP L.F x).kind<9)(hkids:(CP L.F x).kids=[]){l b2 b3 b4:Nat}(g2:s.heap.get b2=some (R 24 0 false [.ptr (some (p,0))]))(g3:s.heap.get b3=some (R 3 0 false [iv x]))(hlt:b2<s.next∧b3<s.next)
  {W:List Nat} (D:CO→Prop) (hstep:∀kv S1 (K':AV→CO→Prop),DL s.next s S1→Cl S1 kv []→(∀S2,Eb W S1 S2→D S2→K' (.bool true) S2)→WR E l [.agg (F7 (CP L.F x) (kv::KE))] K' S1) (hW:∀j∈W,j<s.next)
  (hq:∀S2,Eb W s S2→D S2→K (.tuple []) S2):WF E 125 [.yield l,.ptr (some (b2,0)),.ptr (some (b3,0)),.ptr (some (b4,0))] K s:=by
 obtain⟨q,mf,av,mk,j,i,r,y,OS,hobj,hp,hj,hi,hix,hr,hy,hn13,hld,hok,hget,hyO⟩:=LY hE hL (x:=x) h0
 obtain⟨kv,lc,hy6,hkd,hks,hlx⟩:=hy.ex
 have hz:=hlx.z
 subst hz
 rw[hy6]at hn13
 rw[Gh hx]at hix
 have hent:F7 (CP L.F x) (kv::KE)=[iv (CP L.F x).kind,iv (CP L.F x).num,iv (CP L.F x).p0,iv (CP L.F x).p1,.str (CP L.F x).rest,kv,.bool false,.slice none 0 (some 0),.slice none 0 (some 0),.slice none 0 (some 0),.slice none 0 (some 0),iv (CP L.F x).size,.str (CP L.F x).text]:=rfl
 rw[hent]at hn13
 have hn13':EV (s.heap.get j) (i * 13) 13=some [iv (CP L.F x).kind,iv (CP L.F x).num,iv (CP L.F x).p0,iv (CP L.F x).p1,.str (CP L.F x).rest,kv,.bool false,.slice none 0 (some 0),.slice none 0 (some 0),.slice none 0 (some 0),.slice none 0 (some 0),iv (CP L.F x).size,.str (CP L.F x).text]:=by rw[hr];exact hn13
 have hkc:=FZ hkd
 rw[hkids]at hkd
 have e1:=Cj (P:=prog) (cap:=none) (i:=j) (o:=0) underlying46 Ny hi
 have hx64:i64 x:=by unfold i64;have:=hL.small;omega
 have kt:D8 prog 57=some 3:=by kernel_rfl
 refine hE.go ru (by decide) rfl ?_
 generalize hs:s.next=b at hlt hp hj
 have hs0:s=ext s []:=(Ca s).symm
 have eB:∀os j,j<b→(ext s os).heap.get j=s.heap.get j:=fun os j hj=>Cm (by omega)
 have G2:∀os,(ext s os).heap.get b2=some (R 24 0 false [.ptr (some (p,0))]):=fun os=>(eB os _ hlt.1).trans g2
 have G3:∀os,(ext s os).heap.get b3=some (R 3 0 false [iv x]):=fun os=>(eB os _ hlt.2).trans g3
 rw[hs0]
 simp only[A4a,kE,kF,kt,hs,G2,G3,Dt,Ee,Qa,Qb,QS,Wg]
 refine Md hE (hL.old Ci) hx64 ?_
 rw[Gh hx]
 simp only[Fo,hs,QS,Wg]
 refine WC.loop' ?_
 obtain⟨V,hV⟩:∃V,V=Ck.loop Pv:=⟨_,rfl⟩
 rw[← hV]
 have hix2:x=(i:Int):=hix.symm
 have hln:∀ (s':CO) (j:Nat),D9 prog s' 30 (.slice (some (j,0)) 1 (some 1))=some (.int .i64 1):=fun s' j=>by kernel_rfl
 have hln0:∀ (s':CO) (j:Nat),D9 prog s' 30 (.slice (some (j,0)) 0 (some 0))=some (.int .i64 0):=fun s' j=>by kernel_rfl
 have hgt:Ch prog .gtr 3 (.int .i64 1) (.int .i64 0)=some (.bool true):=by kernel_rfl
 have hgt0:Ch prog .gtr 3 (.int .i64 0) (.int .i64 0)=some (.bool false):=by kernel_rfl
 have hsub:Ch prog .sub 3 (.int .i64 1) (.int .i64 1)=some (.int .i64 0):=by kernel_rfl
 have hsl:∀ (s':CO) (j:Nat),DK prog 30 false true true s' [.slice (some (j,0)) 1 (some 1),.int .i64 0,.int .i64 0]=some (.slice (some (j,0)) 0 (some 0)):=fun s' j=>by kernel_rfl
 have hid:∀ (j:Nat),CQ prog 30 (.slice (some (j,0)) 1 (some 1)) (.int .i64 0)=some (.ptr (some (j,0))):=fun j=>by kernel_rfl
 have hiv:(Dv [x])[0]? = some (.int .i64 x):=rfl
 have hmap:∀os,(ext s (.map 3 []::os)).heap.get (nid b 0)=some (.map 3 []):=fun os=>by rw[CR hs (by simp)];rfl
 have hlk:∀os,Dy prog (ext s (.map 3 []::os)) 57 (.map (some (nid b 0))) (.int .i64 x) true=some (.tuple [.agg [],.bool false]):=fun os=>by
  unfold Dy
  simp only[underlying57,Sf,Do hx64,EB,Gw,hmap,Option.bind_some,iJ]
  rfl
 simp only[Pv,ZD,kG,kH,kI,kJ,hs,hln,hgt,hsub,hsl,hid,hiv,hlk,Ee,F4,iJ,A3a,Qa,Qb,QS,Wg,Nat.reduceAdd]
 have hup:EF prog (ext s [.map 3 [],R 3 1 false (Dv [x]),R 63 0 false []]) 57 (.map (some (nid b 0))) (.int .i64 x) (.agg [])=some (setObj (ext s [.map 3 [],R 3 1 false (Dv [x]),R 63 0 false []]) (nid b 0) (.map 3 (Cy [x]))):=GF (ks:=[]) (hmap _) hx64
 simp only[kK,M5,hup,Qb,QS,Wg]
 generalize hs2:setObj (ext s [.map 3 [],R 3 1 false (Dv [x]),R 63 0 false []]) (nid b 0) (.map 3 (Cy [x]))=s2
 have n2:s2.next=b+3:=by rw[← hs2,Cp,Ce,hs,CN];rfl
 have o2:DL s.next s s2:=by rw[← hs2];exact Ci.set (by rw[CN];omega) _
 have r2:=(o2.2 b2 (by omega)).trans g2
 have rp:=(o2.2 p (by omega)).trans hobj
 have rj:s2.heap.get j=s.heap.get j:=o2.2 j (by omega)
 have s20:s2=ext s2 []:=(Ca s2).symm
 have R2:∀os,(ext s2 os).heap.get b2=some (R 24 0 false [.ptr (some (p,0))]):=fun os=>by rw[Cm (by omega)];exact r2
 have Rp:∀os,(ext s2 os).heap.get p=some (R 49 0 false [.ptr (some (q,0)),.slice (some (j,0)) L.F.length none,.map (some mf),av,.map (some mk)]):=fun os=>by rw[Cm (by omega)];exact rp
 have Rj:∀os,EV ((ext s2 os).heap.get j) (i * 13) 13=some [iv (CP L.F x).kind,iv (CP L.F x).num,iv (CP L.F x).p0,iv (CP L.F x).p1,.str (CP L.F x).rest,kv,.bool false,.slice none 0 (some 0),.slice none 0 (some 0),.slice none 0 (some 0),.slice none 0 (some 0),iv (CP L.F x).size,.str (CP L.F x).text]:=fun os=>by rw[Cm (by omega),rj];exact hn13'
 have e1':CQ prog 46 (.slice (some (j,0)) L.F.length none) (.int .i64 x)=some (.ptr (some (j,0+i * 13))):=by rw[hix2];exact e1
 rw[s20]
 simp only[kM,kN,R2,Rp,Rj,n2,Dt,GS,Lq,e1',qo,Ny,uS,hkc,Qb,QS,Wg,Nat.reduceAdd]
 have hos:(ext s2 [R 86 0 false [iv (CP L.F x).kind,iv (CP L.F x).num,iv (CP L.F x).p0,iv (CP L.F x).p1,.str (CP L.F x).rest,kv,.bool false,.slice none 0 (some 0),.slice none 0 (some 0),.slice none 0 (some 0),.slice none 0 (some 0),iv (CP L.F x).size,.str (CP L.F x).text]]).heap.get (nid (b+3) 0)=some (R 86 0 false [iv (CP L.F x).kind,iv (CP L.F x).num,iv (CP L.F x).p0,iv (CP L.F x).p1,.str (CP L.F x).rest,kv,.bool false,.slice none 0 (some 0),.slice none 0 (some 0),.slice none 0 (some 0),.slice none 0 (some 0),iv (CP L.F x).size,.str (CP L.F x).text]):=by rw[CR n2 (by simp)];rfl
 have ho4:DL s.next s (ext s2 [R 86 0 false [iv (CP L.F x).kind,iv (CP L.F x).num,iv (CP L.F x).p0,iv (CP L.F x).p1,.str (CP L.F x).rest,kv,.bool false,.slice none 0 (some 0),.slice none 0 (some 0),.slice none 0 (some 0),.slice none 0 (some 0),iv (CP L.F x).size,.str (CP L.F x).text]]):=o2.trans ((Ci (s:=s2)).mono o2.1)
 have hn4:(ext s2 [R 86 0 false [iv (CP L.F x).kind,iv (CP L.F x).num,iv (CP L.F x).p0,iv (CP L.F x).p1,.str (CP L.F x).rest,kv,.bool false,.slice none 0 (some 0),.slice none 0 (some 0),.slice none 0 (some 0),.slice none 0 (some 0),iv (CP L.F x).size,.str (CP L.F x).text]]).next=b+4:=by rw[Ce,n2,CN];rfl
 generalize ext s2 [R 86 0 false _]=s4 at hos ho4 hn4
 refine hstep kv s4 _ ho4 (hkd.old ho4) fun S2 f2 d2=>?_
 have hS2:S2.heap.get (nid (b+3) 0)=some (R 86 0 false [iv (CP L.F x).kind,iv (CP L.F x).num,iv (CP L.F x).p0,iv (CP L.F x).p1,.str (CP L.F x).rest,kv,.bool false,.slice none 0 (some 0),.slice none 0 (some 0),.slice none 0 (some 0),.slice none 0 (some 0),iv (CP L.F x).size,.str (CP L.F x).text]):=by
  rw[f2.2 _ (by rw[hn4,CN];omega) (fun hm=>by have:=hW _ hm;rw[CN]at this;omega)];exact hos
 have happ:∀ (s':CO) (i:Nat),DE prog s' [30,30] [.slice (some (i,0)) 0 (some 0),kv]=some (.slice (some (i,0)) 0 (some 0),s'):=fun s' i=>by
  rcases hkd with⟨_,rfl⟩ | ⟨j2,q2,cap,rfl,_⟩<;>kernel_rfl
 have k9:decide ((CP L.F x).kind=9)=false:=decide_eq_false (by omega)
 simp only[bw,cA,hS2,RH,JH,J0,IT,Ee,happ,Wd,k9,Qb,QS,Wg]
 rw[hV]
 refine WC.loop' ?_
 simp only[Pv,ZD,hln0,hgt0,Qa,Qb,QS]
 trace_state
 exact hq S2 ((ho4.frO W).tr f2) d2
end
theorem TL{s:CO}{v:AV}{l:List Int}{OB:List Nat}(hb:HD 3 1 s v l.length (Dv l) OB)(x:Int)(hl:l.length≤1000000):
  ∃v2 s2 OB2,DE prog (newObj s (R 3 1 false (Dv [x]))) [30,30] [v,.slice (some (s.next,0)) 1 (some 1)]=some (v2,s2)∧HD 3 1 s2 v2 (l++[x]).length (Dv (l++[x])) OB2∧s2.next=s.next+2∧(∀j,j<s.next→j ∉ OB→s2.heap.get j=s.heap.get j)∧(∀j∈OB2,j∈OB∨s.next≤j):=by
 have hnx:(ext s [R 3 1 false (Dv [x])]).next=s.next+1:=by rw[Ce,CN];rfl
 have hrd:Cl (ext s [R 3 1 false (Dv [x])]) (.slice (some (nid s.next 0,0)) 1 (some 1)) [x]:=.inr ⟨nid s.next 0,0,some 1,rfl,by rw[hnx,CN];omega,by rw[CR rfl (by simp)];exact D3 (A8H _)⟩
 have hbuf2:=hb.frame (s':=ext s [R 3 1 false (Dv [x])]) (by rw[hnx];omega) fun j hj=>Cm (hb.lt j hj)
 obtain⟨v2,s3,OB2,happ,hb2,hn2,hf2,hO2,hsl⟩:=hbuf2.append (xt:=30) (m:=1) underlying30 HC A6H (by omega) WO qU (by omega) (YY hrd) rfl (Vd _) (by omega) (by omega)
 rw[hnx]at hn2 hf2 hO2
 have hne:newObj s (R 3 1 false (Dv [x]))=ext s [R 3 1 false (Dv [x])]:=by
  have:=H7 s [] (R 3 1 false (Dv [x]))
  rw[Ca]at this;exact this
 rw[← hne,LH]at happ
 rw[← Z4]at hb2
 refine⟨v2,s3,OB2,happ,by rw[A8X];exact hb2,by omega,fun j hj hB=>by rw[hf2 j (by omega) hB,Cm (by omega)],fun j hj=>(hO2 j hj).imp id fun h=>by omega⟩
theorem Zx(l:List Int):Kd (Dv l)=some l:=by
 induction l with
 | nil=>rfl
 | cons x l ih=>show(Kd (Dv l)).bind _=_;rw[ih];rfl
theorem p6{E:Dw}(hE:Cn E){s:CO}{v:AV}{l:List Int}{OB:List Nat}(hb:HD 3 1 s v l.length (Dv l) OB)(h0:0<l.length)(hl:l.length≤1000000){K:AV→CO→Prop}
    (hK:∀s',s'.next=s.next→(∀j,j ∉ OB→s'.heap.get j=s.heap.get j)→Cl s' v (DS l)→K (.tuple []) s'):WF E 73 [v] K s:=by
  have hpl:(DS l).length=l.length:=(EM l).length_eq
  obtain⟨i,s',rfl,hst,hn,hld,hi,hiO,hf⟩:=hb.refill h0 (ys:=Dv (DS l)) (show(Dv (DS l)).length=l.length by rw[FD,hpl]) (Vd _)
  have hcs:Di s i 0 l.length=some (Dv l):=by
    rcases hb.row with⟨_,hz0,_⟩ | ⟨j,r,hj1,hjO,hjr,hh⟩
    · omega
    · injection hj1 with hj1
      injection hj1 with hj1
      injection hj1 with hj1 _
      subst hj1
      rw[Et,hjr,H6 hh (by rw[FD];omega),A8p,A8m (by rw[FD];omega)]
  have hso:KP s [.slice (some (i,0)) l.length none]=some (.tuple [],s'):=by
    have:KP s [.slice (some (i,0)) l.length none]=(Di s i 0 l.length).bind fun cs=>(Kd cs).bind fun xs=>CU (Nat.blt 0 l.length && Nat.ble l.length 1000000) (JI ((DS xs).map Z3) fun ys=>(EC s i 0 ys).bind fun s'=>some (.tuple [],s')):=by
      cases hTl:l.length with
      | zero=>omega
      | succ n=>rfl
    rw[this,hcs,Option.bind_some,Zx,Option.bind_some,OK h0,EA hl,Ez]
    show CU true ((EC s i 0 (Dv (DS l))).bind _)=_
    rw[hst];rfl
  refine WF.native (hE.tab _ _ _ _ (by rw[Xq];exact hso)) (hK s' hn hf (.inr ⟨i,0,none,by rw[hpl],by omega,by rw[hpl];exact hld⟩))
section
variable{E:Dw}(hE:Cn E){s:CO}{p:Nat}{L:LG}{O:List Nat}(hL:DG s p L O)(h0:0<L.F.length)(hSm:L.S.length≤1000000){K:AV→CO→Prop}
include hE hL h0 hSm
theorem ij{x:Int}(hx:0≤x∧x<L.F.length)(hk:5≤(CP L.F x).kind)(hix:(IH L.F (CP L.F x).key:Int)=x){b0 b1 l mk:Nat}{v0 v1 v4 v5 v6 v7 v8:AV}{kv:AV}(hkc:kv.isCell=true){lo:Fv}(hlo:lo=Gv 62 [v0,v1,.ptr (some (b0,0)),.ptr (some (b1,0)),v4,v5,v6,v7,v8] #[11] cL cM mk)
  (hl:Df s l=some lo) (g0:s.heap.get b0=some (R 24 0 false [.ptr (some (p,0))])) (g1:s.heap.get b1=some (R 30 0 false [.slice none 0 (some 0)])) (hlt:b0<s.next∧b1<s.next∧l<s.next) (hne:l≠b0∧l≠b1∧b0≠b1) (hO:l ∉ O∧b1 ∉ O)
  (hK:∀S2 v OB,Eb [l,b1] s S2→Df S2 l=some { lo with state:=.ready }→S2.heap.get b1=some (R 30 0 false [v])→HD 3 1 S2 v 1 (Dv [x]) OB→(∀j∈OB,s.next≤j)→K (.bool true) S2):WR E l [.agg (F7 (CP L.F x) (kv::KE))] K s:=by
 have hz:FW (Fu E.P lo.fn) lo.var lo.params.toList [.agg (F7 (CP L.F x) (kv::KE))]=some [v0,v1,.ptr (some (b0,0)),.ptr (some (b1,0)),v4,v5,v6,.agg (F7 (CP L.F x) (kv::KE)),v8]:=by
  subst hlo
  show FW (Fu E.P 62) _ [11] _=_
  rw[hE.P,lq];rfl
 have hent:F7 (CP L.F x) (kv::KE)=[iv (CP L.F x).kind,iv (CP L.F x).num,iv (CP L.F x).p0,iv (CP L.F x).p1,.str (CP L.F x).rest,kv,.bool false,.slice none 0 (some 0),.slice none 0 (some 0),.slice none 0 (some 0),.slice none 0 (some 0),iv (CP L.F x).size,.str (CP L.F x).text]:=rfl
 rw[hent]at hz ⊢
 refine WR.round hl hz (by subst hlo;rw[hE.P];exact A1O) (by subst hlo;rw[hE.P];exact A1P) ?_
 refine HB ?_
 generalize hs:s.next=b at hlt
 have hs0:s=ext s []:=(Ca s).symm
 rw[hs0]
 simp only[lj,yE,uS,Ny,hs,hkc,Qa,Qb,QS,Wg,Nat.reduceAdd]
 have hrdy:J7 lo.state=true:=by subst hlo;rfl
 have o1:DL s.next s (ext s [R 86 0 false [iv (CP L.F x).kind,iv (CP L.F x).num,iv (CP L.F x).p0,iv (CP L.F x).p1,.str (CP L.F x).rest,kv,.bool false,.slice none 0 (some 0),.slice none 0 (some 0),.slice none 0 (some 0),.slice none 0 (some 0),iv (CP L.F x).size,.str (CP L.F x).text]]):=Ci
 have gb:(ext s [R 86 0 false [iv (CP L.F x).kind,iv (CP L.F x).num,iv (CP L.F x).p0,iv (CP L.F x).p1,.str (CP L.F x).rest,kv,.bool false,.slice none 0 (some 0),.slice none 0 (some 0),.slice none 0 (some 0),.slice none 0 (some 0),iv (CP L.F x).size,.str (CP L.F x).text]]).heap.get (nid b 0)=some (R 86 0 false [iv (CP L.F x).kind,iv (CP L.F x).num,iv (CP L.F x).p0,iv (CP L.F x).p1,.str (CP L.F x).rest,kv,.bool false,.slice none 0 (some 0),.slice none 0 (some 0),.slice none 0 (some 0),.slice none 0 (some 0),iv (CP L.F x).size,.str (CP L.F x).text]):=by rw[CR hs (by simp)];rfl
 have n1:(ext s [R 86 0 false [iv (CP L.F x).kind,iv (CP L.F x).num,iv (CP L.F x).p0,iv (CP L.F x).p1,.str (CP L.F x).rest,kv,.bool false,.slice none 0 (some 0),.slice none 0 (some 0),.slice none 0 (some 0),.slice none 0 (some 0),iv (CP L.F x).size,.str (CP L.F x).text]]).next=b+1:=by rw[Ce,hs,CN];rfl
 generalize ext s [R 86 0 false _]=s1 at o1 gb n1
 refine⟨lo,(En (o1.2 l (by omega))).trans hl,hrdy,HB ?_⟩
 have l4:∀X,Df (setObj s1 l (.loop X)) l=some X:=fun X=>Ep _ _ _
 generalize hs4:setObj s1 l (Cg.loop _)=s4
 have hlb:l≠nid b 0:=by rw[CN];omega
 have n4:s4.next=b+1:=by rw[← hs4,Cp,n1]
 have f4:∀j,j≠l→s4.heap.get j=s1.heap.get j:=fun j hj=>by rw[← hs4,CS _ hj]
 have lp4:Df s4 l=some { lo with state:=.busy }:=by rw[← hs4];exact Ep _ _ _
 obtain⟨q,fv,mf,av,mk2,X,OS,OB,OA,e⟩:=hL.ex
 have hmf:mf<b:=by have:=e.flt;omega
 have hpb:p<b:=by have:=e.plt;omega
 have q0:s4.heap.get b0=some (R 24 0 false [.ptr (some (p,0))]):=by rw[f4 _ (Ne.symm hne.1),o1.2 _ (by omega)];exact g0
 have q1:s4.heap.get b1=some (R 30 0 false [.slice none 0 (some 0)]):=by rw[f4 _ (Ne.symm hne.2.1),o1.2 _ (by omega)];exact g1
 have qp:s4.heap.get p=some (R 49 0 false [.ptr (some (q,0)),fv,.map (some mf),av,.map (some mk2)]):=by rw[f4 _ (fun h=>hO.1 (h▸e.parts.1)),o1.2 _ (by omega)];exact e.obj
 have qm:s4.heap.get mf=some (.map 76 (Fq (DP L.F) 0)):=by rw[f4 _ (fun h=>hO.1 (h▸e.parts.2.1)),o1.2 _ (by omega)];exact e.fnd
 have qb:s4.heap.get (nid b 0)=some (R 86 0 false [iv (CP L.F x).kind,iv (CP L.F x).num,iv (CP L.F x).p0,iv (CP L.F x).p1,.str (CP L.F x).rest,kv,.bool false,.slice none 0 (some 0),.slice none 0 (some 0),.slice none 0 (some 0),.slice none 0 (some 0),iv (CP L.F x).size,.str (CP L.F x).text]):=by rw[f4 _ (Ne.symm hlb)];exact gb
 have hxm:=VT hx
 have hok:=hL.ok _ _ (Gr hx)
 have hkm:(CP L.F x).key∈DP L.F:=List.mem_map.2 ⟨_,hxm,rfl⟩
 have hlk:∀s',s'.heap.get mf=some (.map 76 (Fq (DP L.F) 0))→Dy prog s' 44 (.map (some mf)) (.agg [iv (CP L.F x).kind,iv (CP L.F x).num,iv (CP L.F x).p0,iv (CP L.F x).p1,.str (CP L.F x).rest]) false=some (iv x):=fun s' h'=>by
  have hrd:Gw s' 76 mf=some (Fq (DP L.F) 0):=by unfold Gw;rw[h'];simp[CU]
  have hsk:=WA hok hSm
  have hfd:=P1 (CP L.F x).key (DP L.F) 0 0
  rw[if_pos hkm]at hfd
  have hkv:It (CP L.F x).key=[iv (CP L.F x).kind,iv (CP L.F x).num,iv (CP L.F x).p0,iv (CP L.F x).p1,.str (CP L.F x).rest]:=rfl
  rw[hkv]at hsk hfd
  have hix':(((0+(DP L.F).idxOf (CP L.F x).key:Nat)):Int)=x:=by rw[A8V];exact hix
  rw[hix']at hfd
  unfold Dy
  simp only[underlying44,hsk,EB,hrd,Option.bind_some,hfd]
  rfl
 have k5:decide (5≤(CP L.F x).kind)=true:=decide_eq_true hk
 simp only[ln,yF,yG,qb,JH,J0,Ee,Wc,k5,q0,q1,qp,Dt,IT,Zo,A0x,iX,iB,hlk s4 qm,Fo,Qa,Qb,QS,Wg,Nat.reduceAdd,Nat.reduceLeDiff]
 obtain⟨v2,s2,OB2,happ,hb2,hn2,hf2,hO2⟩:=TL (s:=s4) (l:=[]) (HD.nil _ _ _) x (by simp)
 have hv2:v2.cells=[v2]∧v2.isCell=true:=by obtain⟨a,c,rfl,_⟩:=hb2.slice;exact⟨rfl,rfl⟩
 have z1:s2.heap.get b1=some (R 30 0 false [.slice none 0 (some 0)]):=by rw[hf2 _ (by omega) (by simp)];exact q1
 have zl:Df s2 l=some { lo with state:=.busy }:=(En (hf2 l (by omega) (by simp))).trans lp4
 have hOB:∀j∈OB2,b+1≤j:=fun j hj=>(hO2 j hj).elim (fun h=>by cases h) (fun h=>by omega)
 simp only[happ,aw,hv2.1,hv2.2,z1,QS,Wg]
 refine⟨{ lo with state:=.busy },(En (CS _ hne.2.1)).trans zl,?_⟩
 have hpd:lo.pending=none:=by subst hlo;rfl
 refine hK _ v2 OB2 ⟨by rw[Cp,Cp];omega,fun j hj hjW=>?_⟩ ?_ ?_ ?_ (fun j hj=>by have:=hOB j hj;omega)
 ·simp only[A8I,A8K,A9V,not_or]at hjW
  rw[CS _ hjW.1,CS _ hjW.2,hf2 j (by omega) (by simp),f4 j hjW.1,o1.2 j (by omega)]
 ·rw[Ep]
  show some _=some _
  rw[hpd];rfl
 ·rw[CS _ (Ne.symm hne.2.1),Co]
 ·exact hb2.frame (by rw[Cp,Cp];exact A8H _) fun j hj=>by have:=hOB j hj;rw[CS _ (by omega),CS _ (by omega)]
end
section
variable{E:Dw}(hE:Cn E){s:CO}{p:Nat}{L:LG}{O:List Nat}(hL:DG s p L O)(h0:0<L.F.length)(hSm:L.S.length≤1000000){K:AV→CO→Prop}
include hE hL h0 hSm
theorem Z8{x:Int}(hx:0≤x∧x<L.F.length)(hk:5≤(CP L.F x).kind∧(CP L.F x).kind<9)(hkids:(CP L.F x).kids=[])(hix:(IH L.F (CP L.F x).key:Int)=x)
    (hK:∀v s',DL s.next s s'→Cl s' v [x]→K v s'):WF E 62 [.ptr (some (p,0)),iv x] K s:=by
  refine hE.go A2A (by decide) rfl ?_
  generalize hs:s.next=b
  have hs0:s=ext s []:=(Ca s).symm
  rw[hs0]
  simp only[A7X,yB,yC,yD,A3k,hs,Dt,Gy,Qa,Qb,QS,Wg,Nat.reduceAdd,Nat.reduceLT]
  refine hE.go A2U (by decide) rfl ?_
  simp only[A7q,zn,zo,hs,List.take,List.drop,Qa,Qb,QS,Wg,Nat.reduceAdd]
  refine WC.range (g:=125) (first:=[]) (cap:=[.ptr (some (nid b 2,0)),.ptr (some (nid b 3,0)),.ptr (some (nid b 4,0))]) rfl ?_
  generalize hlo:Gv 62 _ _ _ _ _=lo
  rw[H7,H7]
  have nA:(ext s [R 24 0 false [.ptr (some (p,0))],R 30 0 false [.slice none 0 (some 0)],R 24 0 false [.ptr (some (p,0))],R 3 0 false [.int .i64 x],R 4 0 false [.bool false]]).next=b+5:=by rw[Ce,hs,CN];rfl
  rw[nA]at hlo ⊢
  simp only[A8e,A8i]
  have oB:DL s.next s (ext s [R 24 0 false [.ptr (some (p,0))],R 30 0 false [.slice none 0 (some 0)],R 24 0 false [.ptr (some (p,0))],R 3 0 false [.int .i64 x],R 4 0 false [.bool false],.mark,.loop lo]):=Ci
  have gB:=fun k (hk:k<7)=>CR (k:=k) (os:=[R 24 0 false [.ptr (some (p,0))],R 30 0 false [.slice none 0 (some 0)],R 24 0 false [.ptr (some (p,0))],R 3 0 false [.int .i64 x],R 4 0 false [.bool false],.mark,.loop lo]) hs (by simpa using hk)
  generalize hsB:ext s [R 24 0 false [.ptr (some (p,0))],R 30 0 false [.slice none 0 (some 0)],R 24 0 false [.ptr (some (p,0))],R 3 0 false [.int .i64 x],R 4 0 false [.bool false],.mark,.loop lo]=sB at oB gB
  have nB:sB.next=b+7:=by rw[← hsB,Ce,hs,CN];rfl
  simp only[CN,A8f]at gB hlo ⊢
  have g0:=gB 0 (by omega)
  have g1:=gB 1 (by omega)
  have g2:=gB 2 (by omega)
  have g3:=gB 3 (by omega)
  have g4:=gB 4 (by omega)
  have g5:=gB 5 (by omega)
  have g6:=gB 6 (by omega)
  simp only[List.getElem?_cons_zero,List.getElem?_cons_succ,A8f]at g0 g1 g2 g3 g4 g5 g6
  have hLB:=hL.old oB
  have hltO:=hL.lt
  have hlO:b+6 ∉ O:=fun hm=>by have:=hltO _ hm;omega
  have h1O:b+1 ∉ O:=fun hm=>by have:=hltO _ hm;omega
  have hlo2:lo=Gv 62 [.ptr (some (p,0)),iv x,.ptr (some (b,0)),.ptr (some (b+1,0)),Cx,.bool false,.func 125 [] [.ptr (some (b+2,0)),.ptr (some (b+3,0)),.ptr (some (b+4,0))],Cx,Cx] #[11] cL cM (b+5):=hlo.symm
  refine Xf hE hLB h0 hSm hx hk.2 hkids g2 g3 ⟨by omega,by omega⟩ (W:=[b+6,b+1]) (fun S2=>Df S2 (b+6)=some { lo with state:=.ready }∧∃v OB,S2.heap.get (b+1)=some (R 30 0 false [v])∧HD 3 1 S2 v 1 (Dv [x]) OB∧∀j∈OB,b+7≤j)
    (fun kv S1 K' ho hkv hK'=>?_) (fun j hj=>?_) (fun S2 f2 d2=>?_)
  · refine ij hE (hLB.old ho) h0 hSm hx hk.1 hix (FZ hkv) hlo2 ((En (ho.2 _ (by omega))).trans (by unfold Df;rw[g6])) ((ho.2 _ (by omega)).trans g0) ((ho.2 _ (by omega)).trans g1) ⟨by have:=ho.1;omega,by have:=ho.1;omega,by have:=ho.1;omega⟩ ⟨by omega,by omega,by omega⟩ ⟨hlO,h1O⟩
      fun S2 v OB k1 k2 k3 k4 k5=>hK' S2 k1 ⟨k2,v,OB,k3,k4,fun j hj=>by have:=k5 j hj;have:=ho.1;omega⟩
  · simp only[A8I,A8K,A9V]at hj;omega
  · obtain⟨lp,v,OB,gv,hbuf,hOB⟩:=d2
    refine⟨_,lp,rfl,?_⟩
    have hpd:lo.pending=none:=by rw[hlo2];rfl
    rw[hpd]
    have e56:b+5+1=b+6:=rfl
    rw[e56]
    generalize hS3:setObj S2 (b+6) _=S3
    have n3:S3.next=S2.next:=by rw[← hS3,Cp]
    have f3:∀j,j≠b+6→S3.heap.get j=S2.heap.get j:=fun j hj=>by rw[← hS3,CS _ hj]
    have nS:=f2.1
    have hbuf3:HD 3 1 S3 v 1 (Dv [x]) OB:=hbuf.frame (by omega) fun j hj=>f3 j (by have:=hOB j hj;omega)
    have gv3:=(f3 (b+1) (by omega)).trans gv
    have gm3:S3.heap.get (b+5)=some .mark:=by rw[f3 _ (by omega),f2.2 _ (by omega) (by simp only[A8I,A8K,A9V];omega)];exact g5
    simp only[PC,yH,yI,IT,gv3,Qb,QS,Wg]
    refine p6 hE (l:=[x]) hbuf3 (by simp) (by simp) fun S4 n4 f4 hrd=>?_
    have gv4:=(f4 (b+1) (fun hm=>by have:=hOB _ hm;omega)).trans gv3
    have gm4:=(f4 (b+5) (fun hm=>by have:=hOB _ hm;omega)).trans gm3
    have hvc:v.cells=[v]∧v.isCell=true:=by obtain⟨a,c,rfl,_⟩:=hbuf.slice;exact⟨rfl,rfl⟩
    simp only[IT,aw,gv4,hvc.1,hvc.2,QS,Wg]
    have hne:b+5≠b+1:=by omega
    obtain⟨s'',u1,u2,u3⟩:=HW [b+5] (setObj S4 (b+1) (R 30 0 false [v])) (by simp) (fun j hj=>by rw[A9E.1 hj,CS _ hne];exact gm4)
    have u3':∀j,j≠b+5→s''.heap.get j=(setObj S4 (b+1) (R 30 0 false [v])).heap.get j:=fun j hj=>u3 j (by simpa using hj)
    have g'':s''.heap.get (b+1)=some (R 30 0 false [v]):=by rw[u3' _ (by omega),Co]
    rw[u1]
    simp only[Qm,FF,IT,g'',QS,Wg]
    have hnn:s.next≤s''.next:=by rw[u2,Cp,n4,n3];omega
    refine hK v s'' ⟨hnn,fun j hj=>?_⟩ ?_
    · rw[u3' j (by omega),CS _ (by omega),f4 j (fun hm=>by have:=hOB _ hm;omega),f3 j (by omega),f2.2 j (by omega) (by simp only[A8I,A8K,A9V];omega)]
      exact oB.2 j hj
    · have hrd1:Cl S4 v [x]:=hrd
      refine hrd1.fx (W:=[b+5,b+1]) ⟨by rw[u2,Cp];exact A8H _,fun j hj hn=>?_⟩ fun j hj hm=>?_
      · simp only[A8I,A8K,A9V,not_or]at hn
        rw[u3' j hn.1,CS _ hn.2]
      · obtain⟨a,c,hvs,ha⟩:=hbuf.slice
        rcases hbuf.row with⟨_,hz,_⟩ | ⟨i,r,hv,hiO,_⟩
        · omega
        · rw[hv]at hj
          injection hj with hj
          have:=hOB i hiO
          simp only[A8I,A8K,A9V]at hm
          omega
end
theorem fZ:D8 prog 97=some 53:=by kernel_rfl
theorem fe:D8 prog 44=some 76:=by kernel_rfl
theorem fg:D8 prog 45=some 94:=by kernel_rfl
theorem eL(m:Nat):C8 prog 100 (zipIdx [1] [.map (some m)])=some (.agg [.slice none 0 (some 0),.map (some m)]):=by kernel_rfl
theorem iy(q a b:Nat):C8 prog 49 (zipIdx [0,2,4] [.ptr (some (q,0)),.map (some a),.map (some b)])=some (.agg [.ptr (some (q,0)),.slice none 0 (some 0),.map (some a),.slice none 0 (some 0),.map (some b)]):=by kernel_rfl
theorem Xs{E:Dw}(hE:Cn E){s:CO}(hg:Ja s 1 FE=true)(h1:1<s.next){K:AV→CO→Prop}
  (hK:∀p s' O',DL s.next s s'→DD s' p [] O'→Fp s' O'→(∀j∈O',s.next≤j)→K (.ptr (some (p,0))) s'):WF E 24 [] K s:=by
 refine hE.go A1c (by decide) rfl ?_
 generalize hs:s.next=b
 have hs0:s=ext s []:=(Ca s).symm
 rw[hs]at h1
 have hnx:(ext s [.map 53 [],R 100 0 false [.slice none 0 (some 0),.map (some (nid b 0))]]).next=b+2:=by rw[Ce,hs,CN];rfl
 rw[hs0]
 simp only[A6z,vh,vi,fZ,eL,hs,Qa,Qb,QS,Wg]
 have hge:∀j∈[nid b 1,nid b 0],b≤j:=fun j hj=>by
  simp only[A8I,A8K,A9V]at hj
  rcases hj with rfl | rfl<;>rw[CN]<;>omega
 refine hK (nid b 1) _ [nid b 1,nid b 0] Ci ?_ ⟨by rw[Ec (Cm (by omega))];exact hg,by rw[hnx];omega,fun hm=>by have:=hge 1 hm;omega⟩ (by rw[hs];exact hge)
 refine⟨⟨A9A,fun i t h=>by simp at h,fun t h=>by cases h⟩,A8T _,.slice none 0 (some 0),nid b 0,[],[],?_,HD.nil _ _ _,?_,rfl,fun i t m h=>by simp at h,rfl,?_,?_,?_,by simp,by simp⟩
 ·rw[CR hs (by simp)];rfl
 ·rw[CR hs (by simp)];rfl
 ·rw[hnx,CN];omega
 ·rw[hnx,CN];omega
 ·rw[CN,CN];omega
def JP:List Fm:=[ER true,ER false]
theorem aj:HH JP:=by
 refine⟨by decide,by decide,by decide,by decide⟩
theorem Yf:DN (DN [] (ER true)) (ER false)=JP:=by
 have h1:DN [] (ER true)=[ER true]:=by simp[DN,DP,Yp]
 rw[h1]
 unfold DN
 rw[if_neg (by decide),Yp]
 rfl
theorem oN{E:Dw}(hE:Cn E){s:CO}(hg:Ja s 1 FE=true)(h1:1<s.next){K:AV→CO→Prop}
  (hK:∀p s' L O',DL s.next s s'→Lx s' p L O'→L.S=[]→L.F=JP→L.A=[]→(∀j∈O',s.next≤j)→s.next≤p→K (.ptr (some (p,0))) s'):WF E 6 [] K s:=by
 refine hE.go A5X (by decide) rfl ?_
 simp only[c6,A4z,A5A,Qa,Qb,QS,Wg]
 refine Xs hE hg h1 fun q s1 OS ho hst hgl hge=>?_
 generalize hs1:s1.next=b
 have hs10:s1=ext s1 []:=(Ca s1).symm
 have hsb:s.next≤b:=by have:=ho.1;omega
 have hqO:=hst.lt
 rw[hs10]
 simp only[fe,fg,iy,hs1,QS,Wg,Nat.reduceAdd]
 have o2:DL s1.next s1 (ext s1 [.map 76 [],.map 94 [],R 49 0 false [.ptr (some (q,0)),.slice none 0 (some 0),.map (some (nid b 0)),.slice none 0 (some 0),.map (some (nid b 1))]]):=Ci
 have g0:=CR (s:=s1) (b:=b) (k:=0) (os:=[.map 76 [],.map 94 [],R 49 0 false [.ptr (some (q,0)),.slice none 0 (some 0),.map (some (nid b 0)),.slice none 0 (some 0),.map (some (nid b 1))]]) hs1 (by simp)
 have g1:=CR (s:=s1) (b:=b) (k:=1) (os:=[.map 76 [],.map 94 [],R 49 0 false [.ptr (some (q,0)),.slice none 0 (some 0),.map (some (nid b 0)),.slice none 0 (some 0),.map (some (nid b 1))]]) hs1 (by simp)
 have g2:=CR (s:=s1) (b:=b) (k:=2) (os:=[.map 76 [],.map 94 [],R 49 0 false [.ptr (some (q,0)),.slice none 0 (some 0),.map (some (nid b 0)),.slice none 0 (some 0),.map (some (nid b 1))]]) hs1 (by simp)
 have n2:(ext s1 [.map 76 [],.map 94 [],R 49 0 false [.ptr (some (q,0)),.slice none 0 (some 0),.map (some (nid b 0)),.slice none 0 (some 0),.map (some (nid b 1))]]).next=b+3:=by rw[Ce,hs1,CN];rfl
 generalize ext s1 [Cg.map 76 [],_,_]=s2 at o2 g0 g1 g2 n2
 simp only[CN,A8f,List.getElem?_cons_zero,List.getElem?_cons_succ]at g0 g1 g2
 have hL2:DG s2 (b+2) ⟨[],[],[],q⟩ ((b+2)::b::(b+1)::(OS++([]++([]++eH [])))):=by
  refine⟨A8T _,fun i f h=>by simp at h,q,.slice none 0 (some 0),b,.slice none 0 (some 0),b+1,[],OS,[],[],g2,hst.old o2,HD.nil _ _ _,g0,HD.nil _ _ _,g1,trivial,by omega,by omega,by omega,rfl,rfl,?_⟩
  simp only[N9,A9I,A8I,A8K,A9V,forall_eq_or_imp,forall_eq,List.Pairwise.nil,A9T,false_imp_iff,implies_true,List.flatMap_nil,not_false_eq_true]
  have:∀j∈OS,j<b:=fun j hj=>by have:=hqO j hj;omega
  refine⟨⟨by omega,by omega,fun h=>by have:=this _ h;omega⟩,⟨by omega,fun h=>by have:=this _ h;omega⟩,fun h=>by have:=this _ h;omega⟩
 generalize hO2:(b+2)::b::(b+1)::(OS++([]++([]++eH [])))=O2 at hL2
 have hO2n:∀j∈O2,s.next≤j:=fun j hj=>by
  rw[← hO2]at hj
  simp only[A8I,A8q,List.flatMap_nil,A8K,A9V]at hj
  rcases hj with rfl | rfl | rfl | hj
  ·omega
  ·omega
  ·omega
  ·exact hge j hj
 have os2:DL s.next s s2:=ho.trans (o2.mono ho.1)
 simp only[A5B,CN,Qb,QS]
 refine HA hE hL2 (by simp) (by simp) fun s3 O3 k1 k2 k3=>?_
 simp only[A5C,Qb,QS]
 refine HA hE k1 (by have:=Tw (F:=[]) (f:=ER true);simp only[A8b]at this;show(DN [] (ER true)).length<_;omega) (by simp) fun s4 O4 m1 m2 m3=>?_
 have m1':DG s4 (b+2) ⟨[],JP,[],q⟩ O4:=by rw[← Yf];exact m1
 simp only[A5D,Qb,QS]
 have hO3n:∀j∈O3,s.next≤j:=fun j hj=>(k3 j hj).elim (hO2n j) (fun h=>by have:=os2.1;omega)
 have hO4n:∀j∈O4,s.next≤j:=fun j hj=>(m3 j hj).elim (hO3n j) (fun h=>by have:=os2.1;have:=k2.1;omega)
 have os4:DL s.next s s4:=⟨by have:=os2.1;have:=k2.1;have:=m2.1;omega,fun j hj=>by
  rw[m2.2 j (by have:=os2.1;have:=k2.1;omega) (fun h=>by have:=hO3n j h;omega),k2.2 j (by have:=os2.1;omega) (fun h=>by have:=hO2n j h;omega),os2.2 j hj]⟩
 refine hK (b+2) s4 ⟨[],JP,[],q⟩ O4 os4 ⟨m1',aj,fun f hf hk=>?_,⟨by rw[Ec (os4.2 1 h1)];exact hg,by have:=os4.1;omega,fun hm=>by have:=hO4n 1 hm;omega⟩⟩ rfl rfl rfl hO4n (by omega)
 have hf':f=ER true∨f=ER false:=by simpa[JP]using hf
 rcases hf' with rfl | rfl<;>simp[ER]at hk
end
end Go.Proofs.YtoaaclpjkelofaaGreatDoor.Am
set_option linter.all false
set_option maxRecDepth 100000
namespace Go.Proofs.YtoaaclpjkelofaaGreatDoor.Am
open Go Go.Proofs
noncomputable section
open Tryz
theorem GZ(i o:Nat):CL prog 117 (.ptr (some (i,o))) 0=some (.ptr (some (i,o+0))):=by kernel_rfl
theorem dN(i o:Nat):CL prog 117 (.ptr (some (i,o))) 1=some (.ptr (some (i,o+1))):=by kernel_rfl
theorem sW(i o:Nat):CL prog 117 (.ptr (some (i,o))) 2=some (.ptr (some (i,o+2))):=by kernel_rfl
theorem dO(i o:Nat):CL prog 117 (.ptr (some (i,o))) 3=some (.ptr (some (i,o+3))):=by kernel_rfl
theorem GU:GG prog 60=some false:=by kernel_rfl
theorem A4B:GG prog 155=some false:=by kernel_rfl
theorem A5r:DZ prog 59=some 1:=by kernel_rfl
theorem A6J:Fe prog 59=some 8:=by kernel_rfl
theorem A6G:GG prog 59=some false:=by kernel_rfl
theorem A4A:GG prog 121=some false:=by kernel_rfl
def ub:List CK:=[Bo (Ba 24) [AC] 2,Bo Bi [Ad] 3]
def uc:List CK:=[Bn (BT 24) [AD],Bo (BX .eql 24) [AA,AY] 7]
def A4Y:List CK:=[Bo Bi [Ad] 3]
def ud:List CK:=[Bn (.mk (fun l=>match l with | []=>(D8 prog 57).bind fun kt=>some (.map kt [],.map) | _=>none)) [],Bo (Bb 57) [] 4,Bn (BZ 57) [AI,AA]]
def ue:List CK:=[Bn (BT 24) [AD],Bn (Bh 29) [AA,AB],Bo (Bh 30) [AA] 8]
def uf:List CK:=[Bo Bi [AT] 5]
def ug:List CK:=[Bn (BT 24) [AD],Bn (Bh 18) [AA,AK],Bo Bi [AA] 6]
def uh:List CK:=[Bn (BT 24) [AD],Bn (Bh 31) [AA,AJ],Bo (BX .neq 3) [AA,AE] 10]
def ui:List CK:=[Bn (BT 57) [AI],Bn (Be 63 []) [],Bn (.e (fun s=>qa (fun m k x=>DI (EF prog s 57 m k x)))) [AF,AJ,AA]]
def kB:Ck:=(.ops uf)
def kC:Ck:=(.block 1 (.seq (.ops ug) (.seq (.ops uh) (.cond (.var 10)
 (.ops ui)
 .skip))))
def Wq:Code:=(I7 11 0).1
def Ws:Code:=(I7 11 0).2
theorem A1J:HL prog 11 Wq=some kB:=by kernel_rfl
theorem A1K:HL prog 11 Ws=some kC:=by kernel_rfl
theorem kD:Fu prog 11=[0,1,2,4,5,6,7,9,14,15,22]:=by kernel_rfl
def j9:List CK:=[Bn (BT 57) [AI],Bn (Bh 33) [AA],Bn (Bh 32) [AA],Bo Bi [AA] 3]
def A4S:Cr:=⟨2,11,(.seq (.ops ub) (.seq (.seq (.ops uc) (.cond (.var 7)
 (.seq (.ops A4Y) .ret)
 .skip)) (.seq (.ops ud) (.seq (.seq (.ops ue) (.block 0 (.rangeFunc 11 (.var 8) #[15] Wq Ws))) (.seq (.ops j9) .ret))))),[((.var 3),none)]⟩
def vy:List CK:=[Bo Bi [AY] 2]
def vz:List CK:=[Bn (.mk (fun l=>match l with | []=>(D8 prog 57).bind fun kt=>some (.map kt [],.map) | _=>none)) [],Bn (.mk (fun l=>match l with | []=>(D8 prog 57).bind fun kt=>some (.map kt [],.map) | _=>none)) [],Bn (.mk (fun l=>match l with | []=>(D8 prog 57).bind fun kt=>some (.map kt [],.map) | _=>none)) [],Bn (Be 117 [0,1,2,3]) [AC,AH,AF,AA],Bn (Ba 117) [AA],Bo Bi [AA] 3]
def wA:List CK:=[Bo Bi [AB] 8,Bo (Bc 30) [AP] 9,Bo Bi [AE] 10]
def lJ:List CK:=[Bo (BX .lss 3) [Aj,AT] 11]
def wB:List CK:=[Bn (BY 30) [AP,Aj],Bn (BT 3) [AA],Bo Bi [AA] 4]
def wC:List CK:=[Bo (Bh 62) [AC,AI] 12,Bo (Bc 30) [Ab] 13,Bo Bi [AE] 14]
def lK:List CK:=[Bo (BX .lss 3) [Aa,Ao] 15]
def wD:List CK:=[Bn (BY 30) [Ab,Aa],Bn (BT 3) [AA],Bo Bi [AA] 5]
def wE:List CK:=[Bn (Bh 63) [AC,AK],Bo Bi [AA] 6]
def wF:List CK:=[Bn (Bh 64) [AC,AK],Bn (BV 84 1) [AA],Bo (Bf 30 30) [AJ,AA] 16,Bo (Bc 30) [BA] 17,Bo Bi [AE] 18]
def U6:List CK:=[Bo (BX .lss 3) [(.var 18),(.var 17)] 19]
def ZG:List CK:=[Bn (BY 30) [BA,(.var 18)],Bn (BT 3) [AA],Bo Bi [AA] 7]
def ZH:List CK:=[Bn (Bh 65) [AG,AN]]
def ZI:List CK:=[Bn (BX .add 3) [(.var 18),AL],Bo Bi [AA] 18]
def QX:Ck:=(.seq (.ops U6) (.seq (.cond (.var 19)
 .skip
 (.exit 4)) (.seq (.block 5 (.seq (.ops ZG) (.ops ZH))) (.ops ZI))))
def lF:List CK:=[Bn (Bh 31) [AC,AK],Bo (BX .eql 3) [AA,BP] 20]
def A1L:List CK:=[Bn (BY 30) [AJ,AE],Bn (BT 3) [AA],Bn (BY 30) [AJ,AL],Bn (BT 3) [AA],Bn (Bh 66) [AG,AH,AA]]
def lG:List CK:=[Bn (BX .add 3) [Aa,AL],Bo Bi [AA] 14]
def U4:Ck:=(.seq (.ops lK) (.seq (.cond (.var 15)
 .skip
 (.exit 2)) (.seq (.block 3 (.seq (.ops wD) (.seq (.ops wE) (.seq (.seq (.ops wF) (.block 4 (.loop QX))) (.seq (.ops lF) (.cond (.var 20)
 (.ops A1L)
 .skip)))))) (.ops lG))))
def lH:List CK:=[Bn (BX .add 3) [Aj,AL],Bo Bi [AA] 10]
def U5:Ck:=(.seq (.ops lJ) (.seq (.cond (.var 11)
 .skip
 (.exit 0)) (.seq (.block 1 (.seq (.ops wB) (.seq (.ops wC) (.block 2 (.loop U4))))) (.ops lH))))
def lI:List CK:=[Bo Bi [AG] 2]
def A7C:Cr:=⟨2,21,(.seq (.ops vy) (.seq (.ops vz) (.seq (.seq (.ops wA) (.block 0 (.loop U5))) (.seq (.ops lI) .ret)))),[((.var 2),none)]⟩
def wG:List CK:=[Bo (Ba 60) [AC] 1,Bo Bi [BE] 2]
def wH:List CK:=[Bn (BT 60) [AB],Bn Bl [AA],Bn (BU 117 1) [AA],Bn (BT 57) [AA],Bn (BT 60) [AB],Bn Bl [AA],Bn (BU 117 2) [AA],Bn (BT 57) [AA],Bo (Bb 30) [] 3,Bo (Bb 30) [] 4,Br (Bh 33) [AO] [Bs (BT 57) [AH] AF,Bs (BT 60) [AB] AO],Br (Bh 32) [AA] [Bs (BT 57) [AM] AH,Bs (BT 60) [AB] AR],Bn (Bh 33) [AH],Bn (Bh 32) [AA],Bn (BZ 30) [AG,AH],Bn (BZ 30) [AI,AF]]
def wI:List CK:=[Bn (Bg 67 0 0) [AG,AI,AB],Bo Bi [AA] 2]
def A7D:Cr:=⟨1,5,(.seq (.ops wG) (.seq (.ops wH) (.seq (.ops wI) .ret))),[((.var 2),none)]⟩
def yV:List CK:=[Bo (Ba 121) [AC] 4]
def yW:List CK:=[Bo (BT 30) [AB] 10,Bo (Bc 30) [Aj] 11,Bo Bi [AE] 12]
def mA:List CK:=[Bo (BX .lss 3) [Ab,Aq] 13]
def yX:List CK:=[Bn (BY 30) [Aj,Ab],Bn (BT 3) [AA],Bo Bi [AA] 5]
def yY:List CK:=[Bo Bi [Ad] 6]
def yZ:List CK:=[Bo (BT 30) [AD] 14,Bo (Bc 30) [Aa] 15,Bo Bi [AE] 16]
def mC:List CK:=[Bo (BX .lss 3) [BA,Ak] 17]
def ya:List CK:=[Bn (BY 30) [Aa,BA],Bn (BT 3) [AA],Bo Bi [AA] 7]
def yb:List CK:=[Bn Bi [AJ],Bn (BT 60) [AG],Bn (Bh 68) [AA,AK,AN],Bn (Bd 122 1 [0]) [AA],Bn (Bf 122 122) [AM,AA],Bo Bi [AA] 6]
def yc:List CK:=[Bn (BX .add 3) [BA,AL],Bo Bi [AA] 16]
def Q2:Ck:=(.seq (.ops mC) (.seq (.cond (.var 17)
 .skip
 (.exit 2)) (.seq (.block 3 (.seq (.ops ya) (.ops yb))) (.ops yc))))
def lu:List CK:=[Bn (BT 60) [AG],Bn Bl [AA],Bn (BU 117 0) [AA],Bn (BT 24) [AA],Bn (Bh 7) [AA],Bn (Bh 35) [AA,AK],Bo (BX .eql 3) [AA,Az] 18]
def ZU:List CK:=[Bn Bi [AJ],Bn (BT 60) [AG],Bn (BT 30) [AD],Bn (Bh 69) [AF,AK,AA],Bn (Bd 122 1 [0]) [AA],Bn (Bf 122 122) [AO,AA],Bo Bi [AA] 6]
def ZV:List CK:=[Bo Bi [AJ] 19,Bo (Bc 122) [(.var 19)] 20,Bo Bi [AE] 21]
def ZW:List CK:=[Bo (BX .lss 3) [(.var 21),(.var 20)] 22]
def lv:List CK:=[Bn (BY 122) [(.var 19),(.var 21)],Bn (BT 59) [AA],Bo Bi [AA] 8]
def lw:List CK:=[Bo Bi [AP] 23]
def ly:List CK:=[Bo Bi [(.var 24)] 9]
def lz:List CK:=[Bn (BT 121) [AI],Bn Bk [AA,AT],Bo (.p1 (Yu prog Go.UnOp.not)) [AA] 25]
def cN:Ck:=(.ops ly)
def cO:Ck:=(.block 7 (.seq (.ops lz) (.cond (.var 25)
 .ret
 .skip)))
def QZ:Code:=(I7 67 0).1
def Q1:Code:=(I7 67 0).2
theorem rI:HL prog 67 QZ=some cN:=by kernel_rfl
theorem rJ:HL prog 67 Q1=some cO:=by kernel_rfl
theorem eN:Fu prog 67=[0,1,2,3,4,6,7,9,11,12,13,14,15,16,19,20,21,22,40,48,49,50,51,54,55,59]:=by kernel_rfl
def mB:List CK:=[Bn (BX .add 3) [(.var 21),AL],Bo Bi [AA] 21]
def ON:Ck:=(.seq (.ops ZW) (.seq (.cond (.var 22)
 .skip
 (.exit 4)) (.seq (.block 5 (.seq (.ops lv) (.seq (.ops lw) (.block 6 (.rangeFunc 67 (.var 23) #[55] QZ Q1))))) (.ops mB))))
def ZX:List CK:=[Bn (BX .add 3) [Ab,AL],Bo Bi [AA] 12]
def Q3:Ck:=(.seq (.ops mA) (.seq (.cond (.var 13)
 .skip
 (.exit 0)) (.seq (.block 1 (.seq (.ops yX) (.seq (.ops yY) (.seq (.seq (.ops yZ) (.block 2 (.loop Q2))) (.seq (.seq (.ops lu) (.cond (.var 18)
 (.ops ZU)
 .skip)) (.seq (.ops ZV) (.block 4 (.loop ON)))))))) (.ops ZX))))
def A7b:Cr:=⟨4,26,(.seq (.ops yV) (.seq (.ops yW) (.block 0 (.loop Q3)))),[]⟩
def yN:List CK:=[Bn Bl [AC],Bn (BU 117 3) [AA],Bn (BT 57) [AA],Bn (.r (fun s=>GA (fun m k=>Dy prog s 57 m k true))) [AA,AB],Bn (BW 0) [AA],Bn (BW 1) [AF],Bn (Bb 63) [],Bn (BZ 63) [AA,AH],Bo Bi [AH] 2]
def yO:List CK:=[Bo Bi [AD] 5]
def yP:List CK:=[Bn Bl [AC],Bn (BU 117 3) [AA],Bn (BT 57) [AA],Bn (Be 63 []) [],Bn (.e (fun s=>qa (fun m k x=>DI (EF prog s 57 m k x)))) [AF,AB,AA]]
def yQ:List CK:=[Bn Bl [AC],Bn (BU 117 0) [AA],Bn (BT 24) [AA],Bn (Bh 7) [AA],Bn (Bh 14) [AA,AB],Bo Bi [AA] 3]
def yR:List CK:=[Bo Bi [AG] 6,Bo (Bc 30) [AJ] 7,Bo Bi [AE] 8]
def ls:List CK:=[Bo (BX .lss 3) [AP,AN] 9]
def yS:List CK:=[Bn (BY 30) [AJ,AP],Bn (BT 3) [AA],Bo Bi [AA] 4]
def yT:List CK:=[Bn (Bh 65) [AC,AI]]
def yU:List CK:=[Bn (BX .add 3) [AP,AL],Bo Bi [AA] 8]
def Wy:Ck:=(.seq (.ops ls) (.seq (.cond (.var 9)
 .skip
 (.exit 0)) (.seq (.block 1 (.seq (.ops yS) (.ops yT))) (.ops yU))))
def ZR:List CK:=[Bn (Bc 30) [AG],Bo (BX .gtr 3) [AA,AE] 10]
def lr:List CK:=[Bn (BY 30) [AG,AE],Bn (BT 3) [AA],Bn (BY 30) [AG,AL],Bn (BT 3) [AA],Bn (Bh 66) [AC,AH,AA]]
def ZS:List CK:=[Bn Bl [AC],Bn (BU 117 0) [AA],Bn (BT 24) [AA],Bn (Bh 7) [AA],Bn (Bh 35) [AA,AB],Bo (BX .eql 3) [AA,Az] 11]
def ZT:List CK:=[Bn Bl [AC],Bn (BU 117 1) [AA],Bn (BT 57) [AA],Bn (Be 63 []) [],Bn (.e (fun s=>qa (fun m k x=>DI (EF prog s 57 m k x)))) [AF,AB,AA]]
def A7a:Cr:=⟨2,12,(.seq (.seq (.ops yN) (.seq (.ops yO) (.cond (.var 5)
 .ret
 .skip))) (.seq (.ops yP) (.seq (.ops yQ) (.seq (.seq (.ops yR) (.block 0 (.loop Wy))) (.seq (.seq (.ops ZR) (.cond (.var 10)
 (.ops lr)
 .skip)) (.seq (.ops ZS) (.cond (.var 11)
 (.ops ZT)
 .skip))))))),[]⟩
def yd:List CK:=[Bo Bi [BE] 3]
def ye:List CK:=[Bn Bl [AC],Bn (BU 117 0) [AA],Bn (BT 24) [AA],Bn Bl [AC],Bn (BU 117 0) [AA],Bn (BT 24) [AA],Bn (Be 34 []) [],Bn Bl [AC],Bn (BU 117 0) [AA],Bn (BT 24) [AA],Bn (Be 34 [0]) [Az],Br (Bh 19) [AU,AB,AD] [Bs (BT 24) [AM] AH,Bs (BT 24) [AS] AQ],Br (Bh 7) [AQ] [Bs (BT 24) [AO] AM],Br (Bh 9) [AA,AQ] [Bs (BT 24) [AR] AO],Bn (Bh 7) [AO],Bn (Bh 9) [AA,AO],Bo Bi [AO] 4,Bo Bi [AH] 5,Bo Bi [AA] 6]
def yg:List CK:=[Bn Bl [AC],Bn (BU 117 0) [AA],Bn (BT 24) [AA],Bn Bl [AC],Bn (BU 117 0) [AA],Bn (BT 24) [AA],Bn Bl [AC],Bn (BU 117 0) [AA],Bn (BT 24) [AA],Bn Bl [AC],Bn (BU 117 0) [AA],Bn (BT 24) [AA],Bn Bl [AC],Bn (BU 117 0) [AA],Bn (BT 24) [AA],Br (Bh 15) [AW,AI] [Bs (BT 24) [AH] AF,Bs (BT 24) [AR] AO,Bs (BT 24) [AU] AS,Bs (BT 24) [AX] AZ],Br (Bh 106) [AC,AB] [Bs (BT 24) [AM] AH,Bs (BT 24) [AQ] AR,Bs (BT 24) [Ac] AU,Bs (BT 24) [AW] AX],Bn (Bd 30 2 [0,1]) [AF,AA],Br (Bh 15) [AW,AI] [Bs (BT 24) [AR] AO,Bs (BT 24) [AU] AS,Bs (BT 24) [AX] AZ],Br (Bh 107) [AC,AD] [Bs (BT 24) [AQ] AR,Bs (BT 24) [Ac] AU,Bs (BT 24) [AW] AX],Bn (Bd 30 2 [0,1]) [AF,AA],Br (Bh 7) [AW] [Bs (BT 24) [AU] AS,Bs (BT 24) [AX] AZ],Br (Bh 13) [AA,AB,AD] [Bs (BT 24) [Ac] AU,Bs (BT 24) [AW] AX],Br (Bh 108) [AC,AA,AK] [Bs (BT 24) [AZ] Ac,Bs (BT 24) [Al] AW],Bn (Bd 30 2 [0,1]) [AI,AA],Br (Bh 108) [AC,AB,AJ] [Bs (BT 24) [AW] AX,Bs (BT 24) [Ah] Ai],Br (Bh 15) [Ai,AA] [Bs (BT 24) [Al] AW],Bn (Bh 15) [AW,AI],Bn (Bd 30 2 [0,1]) [AF,AA],Bn (Bd 155 4 [0,1,2,3]) [AX,AU,AO,AA],Bn (Bh 105) [AA],Bo Bi [AA] 3]
def A7c:Cr:=⟨3,7,(.seq (.ops yd) (.seq (.ops ye) (.seq (.ops yg) .ret))),[((.var 3),none)]⟩
def yh:List CK:=[Bo (Ba 60) [AC] 3,Bo (Ba 3) [AB] 4,Bo (Ba 30) [AD] 5,Bo Bi [BE] 6]
def yi:List CK:=[Bn (Bg 109 0 0) [AG,AI,AK],Bo Bi [AA] 6]
def A7d:Cr:=⟨3,7,(.seq (.ops yh) (.seq (.ops yi) .ret)),[((.var 6),none)]⟩
def jS:List CK:=[Bn (BT 60) [AB],Bn Bl [AA],Bn (BU 117 0) [AA],Bn (BT 24) [AA],Bn (Bh 7) [AA],Bo Bi [AA] 4]
def jT:List CK:=[Bn (BT 3) [AD],Bn (Bh 14) [AI,AA],Bo Bi [AA] 5]
def jU:List CK:=[Bn (BY 30) [AK,AE],Bn (BT 3) [AA],Bn (BY 30) [AK,AL],Bn (BT 3) [AA],Bn (BY 30) [AK,Ax],Bn (BT 3) [AA],Bo (Bb 3) [] 6,Bo (Bb 3) [] 7,Br (BZ 3) [AJ,AO] [Bs (BT 3) [AH] AF,Bs (BT 3) [AO] AM],Br (BZ 3) [AN,AM] [Bs (BT 3) [AM] AH],Bo Bi [AH] 8]
def jV:List CK:=[Bn (Bg 110 0 0) [AB,AJ,AN],Bo Bi [AA] 9]
def jW:List CK:=[Bn (BT 60) [AB],Bn (BT 3) [AJ],Bn (BT 60) [AB],Bn (BT 3) [AD],Bn (BT 3) [AJ],Bn (BT 60) [AB],Bn (BT 3) [AN],Bn (BT 60) [AB],Bn (BT 3) [AD],Bn (BT 3) [AJ],Bn (BT 60) [AB],Bn Bl [AA],Bn (BU 117 0) [AA],Bn (BT 24) [AA],Bn (BT 60) [AB],Bn (BT 3) [AJ],Bn (BT 60) [AB],Bn (BT 3) [AD],Bn (BT 60) [AB],Bn (BT 3) [AD],Bn (BT 3) [AN],Bn (BT 60) [AB],Bn Bl [AA],Bn (BU 117 0) [AA],Bn (BT 24) [AA],Bn (BT 3) [AD],Bn (BT 3) [AN],Br (Bh 106) [(.loc 26),BG] [Bs (BT 3) [AN] AF,Bs (BT 3) [AD] AH,Bs (BT 24) [AO] AM,Bs (BT 60) [AB] AQ,Bs (BT 3) [AN] AS,Bs (BT 3) [AD] AU,Bs (BT 60) [AB] Ac,Bs (BT 3) [AD] AZ,Bs (BT 60) [AB] AX,Bs (BT 3) [AJ] AW,Bs (BT 60) [AB] Al,Bs (BT 24) [Ah] Ai,Bs (BT 60) [AB] Ag,Bs (BT 3) [AJ] Ar,Bs (BT 3) [AD] Ay,Bs (BT 60) [AB] As,Bs (BT 3) [AN] At,Bs (BT 60) [AB] BB,Bs (BT 3) [AJ] Au,Bs (BT 3) [AD] BC,Bs (BT 60) [AB] BG],Br (Bh 108) [BG,BC,Au] [Bs (BT 3) [AN] AH,Bs (BT 3) [AD] AM,Bs (BT 24) [AR] AO,Bs (BT 60) [AB] AS,Bs (BT 3) [AN] AU,Bs (BT 3) [AD] Ac,Bs (BT 60) [AB] AZ,Bs (BT 3) [AD] AX,Bs (BT 60) [AB] AW,Bs (BT 3) [AJ] Al,Bs (BT 60) [AB] Ai,Bs (BT 24) [Af] Ah,Bs (BT 60) [AB] Ar,Bs (BT 3) [AJ] Ay,Bs (BT 3) [AD] As,Bs (BT 60) [AB] At,Bs (BT 3) [AN] BB,Bs (BT 60) [AB] Au],Bn (Bd 30 2 [0,1]) [AF,AA],Br (Bh 107) [BC,Au] [Bs (BT 3) [AN] AO,Bs (BT 3) [AD] AR,Bs (BT 24) [AS] AQ,Bs (BT 60) [AB] Ac,Bs (BT 3) [AN] AZ,Bs (BT 3) [AD] AX,Bs (BT 60) [AB] AW,Bs (BT 3) [AD] Al,Bs (BT 60) [AB] Ai,Bs (BT 3) [AJ] Ah,Bs (BT 60) [AB] Af,Bs (BT 24) [Ar] Ag,Bs (BT 60) [AB] As,Bs (BT 3) [AJ] At,Bs (BT 3) [AD] BB,Bs (BT 60) [AB] Au],Br (Bh 108) [Au,BB,At] [Bs (BT 3) [AN] AR,Bs (BT 3) [AD] AQ,Bs (BT 24) [AU] AS,Bs (BT 60) [AB] AZ,Bs (BT 3) [AN] AX,Bs (BT 3) [AD] AW,Bs (BT 60) [AB] Al,Bs (BT 3) [AD] Ai,Bs (BT 60) [AB] Ah,Bs (BT 3) [AJ] Af,Bs (BT 60) [AB] Ag,Bs (BT 24) [Ay] Ar,Bs (BT 60) [AB] At],Bn (Bd 30 2 [0,1]) [AF,AA],Br (Bh 106) [Ar,Ag] [Bs (BT 3) [AN] AS,Bs (BT 3) [AD] AU,Bs (BT 24) [AZ] Ac,Bs (BT 60) [AB] AW,Bs (BT 3) [AN] Al,Bs (BT 3) [AD] Ai,Bs (BT 60) [AB] Ah,Bs (BT 3) [AD] Af,Bs (BT 60) [AB] Ag,Bs (BT 24) [At] As,Bs (BT 60) [AB] Au],Br (Bh 15) [As,AA] [Bs (BT 3) [AN] AU,Bs (BT 3) [AD] Ac,Bs (BT 24) [AX] AZ,Bs (BT 60) [AB] Al,Bs (BT 3) [AN] Ai,Bs (BT 3) [AD] Ah,Bs (BT 60) [AB] Af,Bs (BT 3) [AD] Ag,Bs (BT 60) [AB] Ar],Br (Bh 106) [Ar,Ag] [Bs (BT 3) [AN] Ac,Bs (BT 3) [AD] AZ,Bs (BT 24) [AW] AX,Bs (BT 60) [AB] Ai,Bs (BT 3) [AN] Ah,Bs (BT 3) [AD] Af,Bs (BT 60) [AB] Ag],Bn (Bd 30 2 [0,1]) [AF,AA],Br (Bh 13) [AI,Ag,Af] [Bs (BT 3) [AN] AX,Bs (BT 3) [AD] AW,Bs (BT 24) [Ai] Al,Bs (BT 60) [AB] Af,Bs (BT 60) [AB] Ay],Br (Bh 108) [Ay,AA,AP] [Bs (BT 3) [AN] AW,Bs (BT 3) [AD] Al,Bs (BT 24) [Ah] Ai,Bs (BT 60) [AB] Ag],Br Bk [AT,AA] [Bs (BT 3) [AN] Al,Bs (BT 3) [AD] Ai,Bs (BT 24) [Af] Ah,Bs (BT 60) [AB] Ar],Bn (Bh 19) [Ah,Ai,Al],Bn Bk [AT,AA],Bn (Bd 155 5 [0,1,2,3,4]) [AW,Ac,AR,AH,AA],Bo Bi [AA] 10]
def jX:List CK:=[Bo (BT 30) [AG] 14,Bo (Bc 30) [Aa] 15,Bo Bi [AE] 16]
def Y3:List CK:=[Bo (BX .lss 3) [BA,Ak] 17]
def jY:List CK:=[Bn (BY 30) [Aa,BA],Bn (BT 3) [AA],Bo Bi [AA] 11]
def jZ:List CK:=[Bn (BT 60) [AB],Bn (BT 3) [AN],Bn (Bh 108) [AF,AA,Aq],Bo Bi [AA] 12]
def ja:List CK:=[Bn Bi [Aj],Bn (BT 60) [AB],Bn (BT 3) [AD],Bn (BT 3) [AJ],Bn (BT 60) [AB],Bn Bl [AA],Bn (BU 117 0) [AA],Bn (BT 24) [AA],Bn (BT 60) [AB],Bn Bl [AA],Bn (BU 117 0) [AA],Bn (BT 24) [AA],Bn (BT 3) [AD],Bn (BT 60) [AB],Bn Bl [AA],Bn (BU 117 0) [AA],Bn (BT 24) [AA],Bn (BT 3) [AJ],Bn (BT 60) [AB],Bn Bl [AA],Bn (BU 117 0) [AA],Bn (BT 24) [AA],Bn (BT 3) [AD],Bn (BT 60) [AB],Bn Bl [AA],Bn (BU 117 0) [AA],Bn (BT 24) [AA],Bn (BT 60) [AB],Bn Bl [AA],Bn (BU 117 0) [AA],Bn (BT 24) [AA],Bn (BT 3) [AJ],Br (Bh 13) [AI,BH,Aq] [Bs (BT 3) [AJ] AF,Bs (BT 24) [AM] AH,Bs (BT 60) [AB] AR,Bs (BT 24) [AS] AQ,Bs (BT 60) [AB] Ac,Bs (BT 3) [AD] AZ,Bs (BT 24) [AW] AX,Bs (BT 60) [AB] Ai,Bs (BT 3) [AJ] Ah,Bs (BT 24) [Ag] Af,Bs (BT 60) [AB] Ay,Bs (BT 3) [AD] As,Bs (BT 24) [BB] At,Bs (BT 60) [AB] BC,Bs (BT 24) [(.loc 26)] BG,Bs (BT 60) [AB] (.loc 28),Bs (BT 3) [AJ] BH,Bs (BT 60) [AB] (.loc 31)],Br (Bh 13) [AI,BH,Aq] [Bs (BT 3) [AJ] AH,Bs (BT 24) [AO] AM,Bs (BT 60) [AB] AQ,Bs (BT 24) [AU] AS,Bs (BT 60) [AB] AZ,Bs (BT 3) [AD] AX,Bs (BT 24) [Al] AW,Bs (BT 60) [AB] Ah,Bs (BT 3) [AJ] Af,Bs (BT 24) [Ar] Ag,Bs (BT 60) [AB] As,Bs (BT 3) [AD] At,Bs (BT 24) [Au] BB,Bs (BT 60) [AB] BG,Bs (BT 24) [(.loc 27)] (.loc 26),Bs (BT 60) [AB] BH,Bs (BT 60) [AB] (.loc 32)],Br (Bh 108) [(.loc 32),AF,AA] [Bs (BT 3) [AJ] AM,Bs (BT 24) [AR] AO,Bs (BT 60) [AB] AS,Bs (BT 24) [Ac] AU,Bs (BT 60) [AB] AX,Bs (BT 3) [AD] AW,Bs (BT 24) [Ai] Al,Bs (BT 60) [AB] Af,Bs (BT 3) [AJ] Ag,Bs (BT 24) [Ay] Ar,Bs (BT 60) [AB] At,Bs (BT 3) [AD] BB,Bs (BT 24) [BC] Au,Bs (BT 60) [AB] (.loc 26),Bs (BT 24) [(.loc 28)] (.loc 27),Bs (BT 60) [AB] (.loc 30)],Bn (Bd 30 2 [0,1]) [Ab,AA],Br (Bh 19) [BC,Au,Aq] [Bs (BT 3) [AJ] AR,Bs (BT 24) [AS] AQ,Bs (BT 60) [AB] Ac,Bs (BT 24) [AX] AZ,Bs (BT 60) [AB] Al,Bs (BT 3) [AD] Ai,Bs (BT 24) [Af] Ah,Bs (BT 60) [AB] Ar,Bs (BT 3) [AJ] Ay,Bs (BT 24) [At] As,Bs (BT 60) [AB] Au,Bs (BT 24) [(.loc 30)] BH,Bs (BT 60) [AB] (.loc 32)],Br (Bh 15) [BH,AA] [Bs (BT 3) [AJ] AQ,Bs (BT 24) [AU] AS,Bs (BT 60) [AB] AZ,Bs (BT 24) [AW] AX,Bs (BT 60) [AB] Ai,Bs (BT 3) [AD] Ah,Bs (BT 24) [Ag] Af,Bs (BT 60) [AB] Ay,Bs (BT 3) [AJ] As,Bs (BT 24) [BB] At,Bs (BT 60) [AB] BC],Br (Bh 19) [At,As,Aq] [Bs (BT 3) [AJ] AS,Bs (BT 24) [Ac] AU,Bs (BT 60) [AB] AX,Bs (BT 24) [Al] AW,Bs (BT 60) [AB] Ah,Bs (BT 3) [AD] Af,Bs (BT 24) [Ar] Ag,Bs (BT 60) [AB] As],Bn (Bd 30 3 [0,1,2]) [Ab,AF,AA],Br (Bh 19) [Ar,Ag,Aq] [Bs (BT 3) [AJ] Ac,Bs (BT 24) [AX] AZ,Bs (BT 60) [AB] Al,Bs (BT 24) [Ah] Ai,Bs (BT 60) [AB] Ag],Br (Bh 19) [AZ,Ac,Aq] [Bs (BT 24) [Af] Ah,Bs (BT 60) [AB] Ar],Bn (Bh 15) [Ah,AA],Bn (Bd 30 3 [0,1,2]) [Ab,AH,AA],Bn (Bd 155 3 [0,1,2]) [AU,AO,AA],Bn (Bf 155 155) [(.loc 44),AA],Bo Bi [AA] 10]
def bi:List CK:=[Bn (BX .add 3) [BA,AL],Bo Bi [AA] 16]
def M6:Ck:=(.seq (.ops Y3) (.seq (.cond (.var 17)
 .skip
 (.exit 0)) (.seq (.block 1 (.seq (.ops jY) (.seq (.ops jZ) (.ops ja)))) (.ops bi))))
def bj:List CK:=[Bo Bi [Aj] 18,Bo (Bc 155) [(.var 18)] 19,Bo Bi [AE] 20]
def Uz:List CK:=[Bo (BX .lss 3) [(.var 20),(.var 19)] 21]
def bq:List CK:=[Bn (BY 155) [(.var 18),(.var 20)],Bn (BT 30) [AA],Bo Bi [AA] 13]
def br:List CK:=[Bn Bk [AC,Ao],Bo (.p1 (Yu prog Go.UnOp.not)) [AA] 22]
def bt:List CK:=[Bn (BX .add 3) [(.var 20),AL],Bo Bi [AA] 20]
def M7:Ck:=(.seq (.ops Uz) (.seq (.cond (.var 21)
 .skip
 (.exit 2)) (.seq (.block 3 (.seq (.ops bq) (.seq (.ops br) (.cond (.var 22)
 .ret
 .skip)))) (.ops bt))))
def A4Q:Cr:=⟨4,23,(.seq (.ops jS) (.seq (.ops jT) (.seq (.ops jU) (.seq (.ops jV) (.seq (.ops jW) (.seq (.seq (.ops jX) (.block 0 (.loop M6))) (.seq (.ops bj) (.block 2 (.loop M7))))))))),[]⟩
def jb:List CK:=[Bo Bi [Ad] 4]
def jc:List CK:=[Bn (BT 60) [AB],Bn Bl [AA],Bn (BU 117 0) [AA],Bn (BT 24) [AA],Bn (BT 60) [AB],Bn (BT 3) [AD],Bn (BT 60) [AB],Bn Bl [AA],Bn (BU 117 0) [AA],Bn (BT 24) [AA],Bn (BT 60) [AB],Bn (BT 3) [AG],Br (Bh 106) [AS,AQ] [Bs (BT 3) [AG] AF,Bs (BT 60) [AB] AH,Bs (BT 24) [AO] AM,Bs (BT 60) [AB] AQ,Bs (BT 24) [AZ] Ac,Bs (BT 60) [AB] AW],Br (Bh 15) [Ac,AA] [Bs (BT 3) [AG] AH,Bs (BT 60) [AB] AM,Bs (BT 24) [AR] AO,Bs (BT 60) [AB] AS],Br (Bh 107) [AM,AH] [Bs (BT 24) [AQ] AR,Bs (BT 60) [AB] AU],Bn (Bh 15) [AR,AA],Bn (Bd 30 3 [0,1,2]) [AH,AA,AC],Bo Bi [AA] 4]
def A4T:Cr:=⟨4,5,(.seq (.ops jb) (.seq (.ops jc) .ret)),[((.var 4),none)]⟩
def jM:List CK:=[Bo Bi [AE] 2]
def jN:List CK:=[Bn Bl [AC],Bn (BU 117 0) [AA],Bn (BT 24) [AA],Bn (Bh 16) [AA,Az,AB],Bo Bi [AA] 2]
def A4N:Cr:=⟨2,3,(.seq (.ops jM) (.seq (.ops jN) .ret)),[((.var 2),none)]⟩
def jO:List CK:=[Bo Bi [AE] 2]
def jP:List CK:=[Bn Bl [AC],Bn (BU 117 0) [AA],Bn (BT 24) [AA],Bn (Bh 16) [AA,BD,AB],Bo Bi [AA] 2]
def A4O:Cr:=⟨2,3,(.seq (.ops jO) (.seq (.ops jP) .ret)),[((.var 2),none)]⟩
def jQ:List CK:=[Bo Bi [AE] 3]
def jR:List CK:=[Bn Bl [AC],Bn (BU 117 0) [AA],Bn (BT 24) [AA],Bn (Bh 12) [AA,AB,AD],Bo Bi [AA] 3]
def A4P:Cr:=⟨3,4,(.seq (.ops jQ) (.seq (.ops jR) .ret)),[((.var 3),none)]⟩
def jK:List CK:=[Bo (Ba 155) [AC] 1,Bo Bi [BE] 2]
def jL:List CK:=[Bn (Bg 132 0 0) [AB],Bo Bi [AA] 2]
def A4M:Cr:=⟨1,3,(.seq (.ops jK) (.seq (.ops jL) .ret)),[((.var 2),none)]⟩
def kU:List CK:=[Bo (BT 155) [AB] 3,Bo (Bc 155) [AG] 4,Bo Bi [AE] 5]
def ZF:List CK:=[Bo (BX .lss 3) [AK,AI] 6]
def kV:List CK:=[Bn (BY 155) [AG,AK],Bn (BT 30) [AA],Bo Bi [AA] 2]
def kW:List CK:=[Bn Bk [AC,AD],Bo (.p1 (Yu prog Go.UnOp.not)) [AA] 7]
def kX:List CK:=[Bn (BX .add 3) [AK,AL],Bo Bi [AA] 5]
def QV:Ck:=(.seq (.ops ZF) (.seq (.cond (.var 6)
 .skip
 (.exit 0)) (.seq (.block 1 (.seq (.ops kV) (.seq (.ops kW) (.cond (.var 7)
 .ret
 .skip)))) (.ops kX))))
def A4c:Cr:=⟨2,8,(.seq (.ops kU) (.block 0 (.loop QV))),[]⟩
theorem A1S:CY prog 11=some A4S:=by kernel_rfl
theorem A1f:CY prog 29=some A7C:=by kernel_rfl
theorem A1g:CY prog 30=some A7D:=by kernel_rfl
theorem A2E:CY prog 67=some A7b:=by kernel_rfl
theorem A2D:CY prog 65=some A7a:=by kernel_rfl
theorem A2F:CY prog 68=some A7c:=by kernel_rfl
theorem A2G:CY prog 69=some A7d:=by kernel_rfl
theorem rX:CY prog 109=some A4Q:=by kernel_rfl
theorem rY:CY prog 110=some A4T:=by kernel_rfl
theorem rU:CY prog 106=some A4N:=by kernel_rfl
theorem rV:CY prog 107=some A4O:=by kernel_rfl
theorem rW:CY prog 108=some A4P:=by kernel_rfl
theorem rT:CY prog 105=some A4M:=by kernel_rfl
theorem rz:CY prog 132=some A4c:=by kernel_rfl
end
end Go.Proofs.YtoaaclpjkelofaaGreatDoor.Am
set_option linter.all false
set_option maxHeartbeats 1000000
set_option maxRecDepth 20000
namespace Go.Proofs.YtoaaclpjkelofaaGreatDoor.Am
open Go Go.Proofs
noncomputable section
open Tryz
theorem J8{S S':List Tm}(h:S <+: S'){t:Tm}(ht:t∈S):ix S' t=ix S t:=by
 obtain⟨G,rfl⟩:=h
 unfold ix
 rw[A9J,if_pos ht]
theorem DA{S S':List Tm}(h:S <+: S'){t:Tm}(ht:t∈S):t∈S':=h.subset ht
structure Tn(S:List Tm)(t:Tm)(x:Int):Prop where
 mem:t∈S
 num:x=(ix S t:Int)
theorem Tn.pre{S S':List Tm}{t:Tm}{x:Int}(h:Tn S t x)(k:S <+: S'):Tn S' t x:=⟨DA k h.mem,by rw[J8 k h.mem];exact h.num⟩
def A5v(s:CO)(f p md mk ms:Nat):Prop:=s.heap.get f=some (R 117 0 false [.ptr (some (p,0)),.map (some md),.map (some mk),.map (some ms)])
section
variable{E:Dw}(hE:Cn E){s:CO}{p:Nat}{L:LG}{O:List Nat}(h:Lx s p L O){K:AV→CO→Prop}(hF:L.F.length<1000000)(hS:L.S.length<99990){f md mk ms:Nat}(hf:A5v s f p md mk ms)
include hE h hF hS
theorem uD{n:Nat}(hn:n<6){t:Tm}{x:Int}(ht:Tn L.S t x)(hK:∀s' L' O' v,Dx [] p s L O s' L' O' 1 0→L'.S=L.S→Av L'.F (Eh L.S n t) v→K (iv v) s'):WF E 16 [.ptr (some (p,0)),iv n,iv x] K s:=by
 rw[ht.num];exact A6g hE h hF hS hn ht.mem hK
theorem A5w{t u:Tm}{x y:Int}(ht:Tn L.S t x)(hu:Tn L.S u y)(hK:∀s' L' O' v,Dx [] p s L O s' L' O' 1 0→L'.S=L.S→Av L'.F (FH L.S t u) v→K (iv v) s'):WF E 12 [.ptr (some (p,0)),iv x,iv y] K s:=by
 rw[ht.num,hu.num];exact eqX hE h hF hS ht.mem hu.mem hK
theorem VX{d k:Tm}{x y:Int}(hd:Tn L.S d x)(hk:Tn L.S k y)(hK:∀s' L' O' v,Dx [] p s L O s' L' O' 1 0→L'.S=L.S→Av L'.F (FC L.S d k) v→K (iv v) s'):WF E 19 [.ptr (some (p,0)),iv x,iv y] K s:=by
 rw[hd.num,hk.num];exact A6U hE h hF hS hd.mem hk.mem hK
omit hF in
theorem aa{d k:Tm}{x y:Int}(hd:Tn L.S d x)(hk:Tn L.S k y)(hK:∀s' L' O' v,Dx [] p s L O s' L' O' 0 1→L'.F=L.F→Tn L'.S (.sel d k) v→K (iv v) s'):WF E 13 [.ptr (some (L.q,0)),iv x,iv y] K s:=by
 rw[hd.num,hk.num];exact A6Y hE h hS hd.mem hk.mem fun s' L' O' k1 k2 k3=>hK s' L' O' _ k1 k2 ⟨by rw[k3];exact If,rfl⟩
omit hF in
theorem em{n:Nat}(hn:n<13)(hK:∀s' L' O' v,Dx [] p s L O s' L' O' 0 1→L'.F=L.F→Tn L'.S (.con n) v→K (iv v) s'):WF E 9 [.ptr (some (L.q,0)),.agg (Tm.con n).cells] K s:=
 A6T hE h hS hn fun s' L' O' k1 k2 k3=>hK s' L' O' _ k1 k2 ⟨by rw[k3];exact If,rfl⟩
include hf
theorem Ky{t:Tm}{x:Int}(ht:Tn L.S t x)(hK:∀s' L' O' v,Dx [] p s L O s' L' O' 1 0→L'.S=L.S→Av L'.F (Eh L.S 4 t) v→K (iv v) s'):WF E 106 [.ptr (some (f,0)),iv x] K s:=by
 refine hE.go rU (by decide) rfl ?_
 unfold A5v at hf
 simp only[A4N,jM,jN,hf,GZ,Dt,Qa,Qb,QS,Wg]
 refine uD hE h hF hS (n:=4) (by decide) ht fun s' L' O' v k1 k2 k3=>?_
 simp only[QS]
 exact hK s' L' O' v k1 k2 k3
theorem VJ{t:Tm}{x:Int}(ht:Tn L.S t x)(hK:∀s' L' O' v,Dx [] p s L O s' L' O' 1 0→L'.S=L.S→Av L'.F (Eh L.S 3 t) v→K (iv v) s'):WF E 107 [.ptr (some (f,0)),iv x] K s:=by
 refine hE.go rV (by decide) rfl ?_
 unfold A5v at hf
 simp only[A4O,jO,jP,hf,GZ,Dt,Qa,Qb,QS,Wg]
 refine uD hE h hF hS (n:=3) (by decide) ht fun s' L' O' v k1 k2 k3=>?_
 simp only[QS]
 exact hK s' L' O' v k1 k2 k3
theorem IV{t u:Tm}{x y:Int}(ht:Tn L.S t x)(hu:Tn L.S u y)(hK:∀s' L' O' v,Dx [] p s L O s' L' O' 1 0→L'.S=L.S→Av L'.F (FH L.S t u) v→K (iv v) s'):WF E 108 [.ptr (some (f,0)),iv x,iv y] K s:=by
 refine hE.go rW (by decide) rfl ?_
 unfold A5v at hf
 simp only[A4P,jQ,jR,hf,GZ,Dt,Qa,Qb,QS,Wg]
 refine A5w hE h hF hS ht hu fun s' L' O' v k1 k2 k3=>?_
 simp only[QS]
 exact hK s' L' O' v k1 k2 k3
end
structure Kp(S:CO)(O:List Nat)(j:Nat)(o:Cg):Prop where
 get:S.heap.get j=some o
 lt:j<S.next
 out:j ∉ O
theorem Kp.step{p:Nat}{S S':CO}{L L':LG}{O O':List Nat}{n m j:Nat}{o:Cg}(h:Kp S O j o)(k:Dx [] p S L O S' L' O' n m):Kp S' O' j o:=
 ⟨(k.keep h.lt (by simp) h.out).trans h.get,A8L h.lt k.nx,k.out h.lt h.out⟩
theorem Kp.old{S S':CO}{O:List Nat}{j:Nat}{o:Cg}(h:Kp S O j o)(k:DL S.next S S'):Kp S' O j o:=⟨(k.2 j h.lt).trans h.get,A8L h.lt k.1,h.out⟩
theorem Lx.fresh{S:CO}{p:Nat}{L:LG}{O:List Nat}(h:Lx S p L O){j:Nat}(hj:S.next≤j):j ∉ O:=fun hm=>by have:=h.at_.lt j hm;omega
theorem Cq{s:CO}{loc var:List AV}(f:CO→AV→Option AV)(x a:CX):JD s loc var ⟨none,.r1 f,[x],a⟩=MM (f s (Fz loc var x)) (Fz loc var a):=rfl
theorem Cw(i o:Nat):MM (some (.ptr (some (i,o)))) (.ptr (some (i,o)))=true:=Jz i o
theorem Dk(n:Int):MM (some (.int .i64 n)) (.int .i64 n)=true:=dJ n
theorem bh:C8 prog 34 (zipIdx [] [])=some (.agg (Tm.con 0).cells):=by kernel_rfl
theorem rB:C8 prog 34 (zipIdx [0] [.int .i64 4])=some (.agg (Tm.con 12).cells):=by kernel_rfl
def iT(Hv:List (Nat×Cg))(S:CO)(X:List Nat):Prop:=∀x∈Hv,S.heap.get x.1=some x.2∧x.1<S.next∧x.1 ∉ X
def Ap(S:CO)(X:List Nat)(P:CO→List Nat→Prop):Prop:=∃Hv:List (Nat×Cg),iT Hv S X∧∀S' X',iT Hv S' X'→P S' X'
theorem iT.step{Hv:List (Nat×Cg)}{S S':CO}{X X':List Nat}(h:iT Hv S X)(f:Eb X S S')(g:DR X X' S):iT Hv S' X':=fun x hx=>by
 obtain⟨h1,h2,h3⟩:=h x hx
 exact⟨(f.2 _ h2 h3).trans h1,A8L h2 f.1,fun hm=>(g _ hm).elim h3 fun e=>by omega⟩
theorem Ap.step{S S':CO}{X X':List Nat}{P:CO→List Nat→Prop}(h:Ap S X P)(f:Eb X S S')(g:DR X X' S):Ap S' X' P:=by
 obtain⟨Hv,h1,h2⟩:=h
 exact⟨Hv,h1.step f g,h2⟩
theorem Ap.rd{S:CO}{X:List Nat}{P:CO→List Nat→Prop}(h:Ap S X P):P S X:=by
 obtain⟨Hv,h1,h2⟩:=h
 exact h2 S X h1
theorem Ap.stp{W:List Nat}{p:Nat}{S S':CO}{L L':LG}{O O':List Nat}{n m:Nat}{P:CO→List Nat→Prop}(h:Ap S (W++O) P)(k:Dx W p S L O S' L' O' n m):Ap S' (W++O') P:=
 h.step k.fr fun j hj=>by
  rcases A8q.1 hj with hj | hj
  ·exact .inl (A8q.2 (.inl hj))
  ·exact(k.gr j hj).imp (fun e=>A8q.2 (.inr e)) id
theorem Ap.sub{S:CO}{X X':List Nat}{P:CO→List Nat→Prop}(h:Ap S X P)(k:∀j∈X',j<S.next→j∈X):Ap S X' P:=by
 obtain⟨Hv,h1,h2⟩:=h
 exact⟨Hv,fun x hx=>⟨(h1 x hx).1,(h1 x hx).2.1,fun hm=>(h1 x hx).2.2 (k _ hm (h1 x hx).2.1)⟩,h2⟩
def bR(v:AV)(C:List (List Int))(S:CO)(X:List Nat):Prop:=∃r cap,v=.slice (some (r,0)) C.length cap∧∀ (i:Nat)(c:List Int),C[i]? = some c→∃cv,DY (S.heap.get r) i=some cv∧Cl S cv c∧∀j,EQ cv=some j→j ∉ X
theorem Kp.fr{S S':CO}{X X':List Nat}{j:Nat}{o:Cg}(h:Kp S X j o)(f:Eb X S S')(g:DR X X' S):Kp S' X' j o:=⟨(f.2 _ h.lt h.out).trans h.get,A8L h.lt f.1,fun hm=>(g _ hm).elim h.out fun e=>by have:=h.lt;omega⟩
theorem Dx.grW{W:List Nat}{p:Nat}{S S':CO}{L L':LG}{O O':List Nat}{n m:Nat}(k:Dx W p S L O S' L' O' n m):DR (W++O) (W++O') S:=fun j hj=>by
 rcases A8q.1 hj with hj | hj
 ·exact .inl (A8q.2 (.inl hj))
 ·exact(k.gr j hj).imp (fun e=>A8q.2 (.inr e)) id
def QH(S:CO)(X:List Nat)(v:AV)(C:List (List Int)):Prop:=∃b sv,v=.func 132 [] [.ptr (some (b,0))]∧Kp S X b (R 155 0 false [sv])∧Ap S X (bR sv C)
theorem QH.fr{S S':CO}{X X':List Nat}{v:AV}{C:List (List Int)}(h:QH S X v C)(f:Eb X S S')(g:DR X X' S):QH S' X' v C:=by
 obtain⟨b,sv,h1,h2,h3⟩:=h
 exact⟨b,sv,h1,h2.fr f g,h3.step f g⟩
theorem Kp.sub{S:CO}{X X':List Nat}{j:Nat}{o:Cg}(h:Kp S X j o)(k:∀i∈X',i<S.next→i∈X):Kp S X' j o:=⟨h.get,h.lt,fun hm=>h.out (k _ hm h.lt)⟩
theorem QH.sub{S:CO}{X X':List Nat}{v:AV}{C:List (List Int)}(h:QH S X v C)(k:∀i∈X',i<S.next→i∈X):QH S X' v C:=by
 obtain⟨b,sv,h1,h2,h3⟩:=h
 exact⟨b,sv,h1,h2.sub k,h3.sub k⟩
theorem Kp.up{S:CO}{O X:List Nat}{j b:Nat}{o:Cg}(h:Kp S O j o)(hX:∀i∈X,i∈O∨i<b)(hb:b≤j):Kp S X j o:=⟨h.get,h.lt,fun hm=>(hX j hm).elim h.out fun e=>by omega⟩
def iK(F:List Fm)(c:List Int):Prop:=c.length≤3∧∀x∈c,(0≤x∧x<F.length)∧(CP F x).kind≠3
theorem iK.pre{F F':List Fm}{c:List Int}(h:iK F c)(k:F <+: F'):iK F' c:=⟨h.1,fun x hx=>by
 have h1:=h.2 x hx
 have h2:=GM k
 exact⟨⟨by omega,by omega⟩,by rw[Gs k h1.1];exact h1.2⟩⟩
theorem RO{F:List Fm}{c:List Int}(h:∀x∈c,(0≤x∧x<F.length)∧(CP F x).kind≠3):EY F 3 c=c:=by
 induction c with
 | nil=>rfl
 | cons x c ih =>
  have h1:=h x A8M
  show Mj F 3 (N8 F.length x)++EY F 3 c=_
  rw[Ng h1.1 h1.2,ih fun y hy=>h y (A8J _ hy)]
  rfl
theorem FJ(S:List Tm)(n:Nat)(t:Tm):(Eh S n t).kind≠3∧(Eh S n t).kind≠4:=by
 unfold Eh
 split
 ·cases decide (t.tag=n)<;>exact⟨by decide,by decide⟩
 ·exact⟨by show(7:Int)≠3;decide,by show(7:Int)≠4;decide⟩
theorem Gc(S:List Tm)(d k:Tm):(FC S d k).kind≠3∧(FC S d k).kind≠4:=by
 unfold FC
 split
 ·exact⟨by decide,by decide⟩
 ·exact⟨by show(8:Int)≠3;decide,by show(8:Int)≠4;decide⟩
theorem HN(S:List Tm)(t u:Tm):(FH S t u).kind≠3∧(FH S t u).kind≠4:=by
  unfold FH
  split
  · exact⟨by decide,by decide⟩
  · split
    · exact⟨by decide,by decide⟩
    · split<;>exact⟨by show(6:Int)≠3;decide,by show(6:Int)≠4;decide⟩
theorem Nv.lt{F:List Fm}{x n:Int}(h:Nv F x n)(h4:(CP F x).kind≠4):(0≤n∧n<F.length)∧(CP F n).kind≠3:=by
  by_cases h01:(CP F x).kind=0∨(CP F x).kind=1
  · have hm := LI          h01
    have hf:=h.fs
    have hn:=h.num
    rw[hm]at hf hn
    generalize decide ((CP F x).kind=1)=b at hf hn
    have hf':DN F (ER b)=F:=hf
    have hn':n=(IH (DN F (ER b)) (ER b).key:Int):=hn
    have hmem:(ER b).key∈DP F:=by have:=HR (F:=F) (f:=ER b);rw[hf']at this;exact this
    rw[hf']at hn'
    have hv:Av F (ER b) n:=⟨hmem,hn'⟩
    refine⟨hv.lt,?_⟩
    rw[hv.kind]
    cases b<;>decide
  · have hv:=h.av (by omega) (by omega) h4
    refine⟨hv.lt,?_⟩
    rw[hv.kind]
    show(4:Int)≠3
    decide
theorem XX{S S':List Tm}(h:S <+: S'){ts:List Tm}(ht:∀t∈ts,t∈S)(k:Nat):JK S' ts k=JK S ts k:=by
 unfold JK
 cases hk:ts[k]? with
 | none=>rfl
 | some t=>show(ix S' t:Int)=ix S t;rw[J8 h (ht t (A8a hk))]
theorem LT{S S':List Tm}(h:S <+: S'){kind num:Int}{nm:List Nat}{ts:List Tm}(ht:∀t∈ts,t∈S):Fi S' kind num nm ts=Fi S kind num nm ts:=by
 unfold Fi
 rw[XX h ht,XX h ht]
theorem GP{S S':List Tm}(h:S <+: S')(n:Nat){t:Tm}(ht:t∈S):Eh S' n t=Eh S n t:=by
 unfold Eh
 rw[LT h (ts:=[t]) (by simpa using ht)]
theorem GI{S S':List Tm}(h:S <+: S'){d k:Tm}(hd:d∈S)(hk:k∈S):FC S' d k=FC S d k:=by
 unfold FC
 rw[LT h (ts:=[d,k]) (by simp[hd,hk])]
theorem F8{S S':List Tm}(h:S <+: S'){t u:Tm}(ht:t∈S)(hu:u∈S):FH S' t u=FH S t u:=by
 unfold FH QM
 rw[J8 h ht,J8 h hu,LT h (ts:=[u,t]) (by simp[ht,hu]),LT h (ts:=[t,u]) (by simp[ht,hu])]
theorem gX(a b c d:Option (Nat×Nat))(n1 n2 n3 n4:Nat)(c1 c2 c3 c4:Option Nat):Cd prog 155 4 (zipIdx [0,1,2,3] [.slice a n1 c1,.slice b n2 c2,.slice c n3 c3,.slice d n4 c4])=some (R 30 1 false [.slice a n1 c1,.slice b n2 c2,.slice c n3 c3,.slice d n4 c4]):=by kernel_rfl
theorem iE{E:Dw}(hE:Cn E){s:CO}{v:AV}(hv:v.cells=[v]){K:AV→CO→Prop}(hK:K (.func 132 [] [.ptr (some (nid s.next 0,0))]) (ext s [R 155 0 false [v]])):WF E 105 [v] K s:=by
 refine hE.go rT (by decide) rfl ?_
 generalize hs:s.next=b at hK
 have hs0:s=ext s []:=(Ca s).symm
 rw[hs0]
 simp only[A4M,jK,jL,hs,hv,List.take,List.drop,Qa,Qb,QS,Wg]
 exact hK
theorem Gd{S:CO}{O:List Nat}{j:Nat}{l:List Int}{n:Nat}(h:Kp S O j (R 3 1 false (Dv l)))(hn:n=l.length)(c:Option Nat):Cl S (.slice (some (j,0)) n c) l:=by
 subst hn
 exact .inr ⟨j,0,c,rfl,h.lt,by rw[h.get];exact(D3 (by rw[FD,A8V];exact A8H _)).trans (by rw[A8p,A8m (by rw[FD];exact A8H _)])⟩
theorem F9{e sz:Nat}{sp:Bool}{cs:List AV}(i:Nat){v:AV}(h:cs[i]? = some v):DY (some (R e sz sp cs)) i=some v:=by rw[Lc,h]
theorem ti{S:CO}{O:List Nat}{b r i1 i2 i3 i4:Nat}{l1 l2 l3 l4:List Int}{n1 n2 n3 n4:Nat}{c1 c2 c3 c4:Option Nat}(hb:Kp S O b (R 155 0 false [.slice (some (r,0)) 4 (some 4)]))
    (hr:Kp S O r (R 30 1 false [.slice (some (i1,0)) n1 c1,.slice (some (i2,0)) n2 c2,.slice (some (i3,0)) n3 c3,.slice (some (i4,0)) n4 c4])) (h1:Kp S O i1 (R 3 1 false (Dv l1))) (h2:Kp S O i2 (R 3 1 false (Dv l2))) (h3:Kp S O i3 (R 3 1 false (Dv l3))) (h4:Kp S O i4 (R 3 1 false (Dv l4)))
    (e1:n1=l1.length) (e2:n2=l2.length) (e3:n3=l3.length) (e4:n4=l4.length):QH S O (.func 132 [] [.ptr (some (b,0))]) [l1,l2,l3,l4]:=by
  refine⟨b,_,rfl,hb,[(r,R 30 1 false [.slice (some (i1,0)) n1 c1,.slice (some (i2,0)) n2 c2,.slice (some (i3,0)) n3 c3,.slice (some (i4,0)) n4 c4]),(i1,R 3 1 false (Dv l1)),(i2,R 3 1 false (Dv l2)),(i3,R 3 1 false (Dv l3)),(i4,R 3 1 false (Dv l4))],?_,fun S' X' hv=>?_⟩
  · intro x hx
    simp only[A8I,A8K,A9V]at hx
    rcases hx with rfl | rfl | rfl | rfl | rfl
    · exact⟨hr.get,hr.lt,hr.out⟩
    · exact⟨h1.get,h1.lt,h1.out⟩
    · exact⟨h2.get,h2.lt,h2.out⟩
    · exact⟨h3.get,h3.lt,h3.out⟩
    · exact⟨h4.get,h4.lt,h4.out⟩
  · have g : ∀ x ∈ _, _ := hv
    have k1:=g _ (A8M ..)
    have k2:=g _ (A8J _ (A8M ..))
    have k3:=g _ (A8J _ (A8J _ (A8M ..)))
    have k4:=g _ (A8J _ (A8J _ (A8J _ (A8M ..))))
    have k5:=g _ (A8J _ (A8J _ (A8J _ (A8J _ (A8M ..)))))
    refine⟨r,some 4,rfl,fun i c hi=>?_⟩
    match i,hi with
    | 0,hi=>injection hi with hi;subst hi;exact⟨_,by rw[k1.1];exact F9 0 rfl,Gd (O:=X') ⟨k2.1,k2.2.1,k2.2.2⟩ e1 _,fun j hj=>by injection hj with hj;rw[← hj];exact k2.2.2⟩
    | 1,hi=>injection hi with hi;subst hi;exact⟨_,by rw[k1.1];exact F9 1 rfl,Gd (O:=X') ⟨k3.1,k3.2.1,k3.2.2⟩ e2 _,fun j hj=>by injection hj with hj;rw[← hj];exact k3.2.2⟩
    | 2,hi=>injection hi with hi;subst hi;exact⟨_,by rw[k1.1];exact F9 2 rfl,Gd (O:=X') ⟨k4.1,k4.2.1,k4.2.2⟩ e3 _,fun j hj=>by injection hj with hj;rw[← hj];exact k4.2.2⟩
    | 3,hi=>injection hi with hi;subst hi;exact⟨_,by rw[k1.1];exact F9 3 rfl,Gd (O:=X') ⟨k5.1,k5.2.1,k5.2.2⟩ e4 _,fun j hj=>by injection hj with hj;rw[← hj];exact k5.2.2⟩
    | n+4,hi=>simp at hi
theorem Ls{S:CO}{p:Nat}{L:LG}{O:List Nat}(h:Lx S p L O)(o:Cg):Lx (ext S [o]) p L O∧Kp (ext S [o]) O (nid S.next 0) o∧DL S.next S (ext S [o]):=
 ⟨h.old Ci,⟨by rw[CR rfl (by simp)];rfl,by rw[Ce,CN,CN];simp,h.fresh (by rw[CN];omega)⟩,Ci⟩
section
variable{E:Dw}(hE:Cn E){s:CO}{p:Nat}{L:LG}{O:List Nat}(h:Lx s p L O){K:AV→CO→Prop}(hF:L.F.length+20<1000000)(hS:L.S.length+10<99990){f md mk ms:Nat}(hf:Kp s O f (R 117 0 false [.ptr (some (p,0)),.map (some md),.map (some mk),.map (some ms)]))
  {d j:Tm} {xd xj:Int} (hd:Tn L.S d xd) (hj:Tn L.S j xj)
include hE h hF hS hf hd hj
theorem fD(hK:∀s' L' O' v C,Dx [] p s L O s' L' O' 12 5→(∀X,(∀j∈X,j∈O'∨j<s.next)→QH s' X v C)→(∀c∈C,iK L'.F c)→(∃hh e,Av L'.F (FC L'.S d j) hh∧Av L'.F (FH L'.S (.sel d j) (.con 0)) e∧Tm.sel d j∈L'.S∧Tm.con 0∈L'.S∧[hh,e]∈C)→C.length≤4→K v s'):WF E 68 [.ptr (some (f,0)),iv xd,iv xj] K s:=by
 refine hE.go A2F (by decide) rfl ?_
 have hfg:=hf.get
 simp only[A7c,yd,ye,hfg,GZ,Dt,bh,rB,Qa,Qb,QS,Wg]
 refine VX hE h (by omega) (by omega) hd hj fun s1 L1 O1 v1 k1 e1 a1=>?_
 have f1:=hf.step k1
 have fg1:=f1.get
 simp only[Dt,fg1,Cq,Cw,A9U,A9S,QS,Wg]
 have nF1:=k1.nF
 have nS1:=k1.nS
 refine LQ hE k1.x ?_
 simp only[Dt,fg1,Cq,Cw,A9U,A9S,QS,Wg]
 refine em hE k1.x (by omega) (by omega) fun s2 L2 O2 v2 k2 e2 t2=>?_
 have f2:=f1.step k2
 have fg2:=f2.get
 have nF2:=k2.nF
 have nS2:=k2.nS
 simp only[Dt,fg2,Cq,Cw,A9U,A9S,QS,Wg]
 refine LQ hE k2.x ?_
 simp only[QS]
 refine em hE k2.x (by omega) (by omega) fun s3 L3 O3 v3 k3 e3 t3=>?_
 have f3:=f2.step k3
 have fg3:=f3.get
 have nF3:=k3.nF
 have nS3:=k3.nS
 simp only[yg,GZ,Dt,fg3,A9S,Qb,QS,Wg]
 have r1:0≤v1∧v1<L3.F.length:=(a1.pre (k2.F.trans k3.F)).lt
 have hx1:(CP L3.F v1).kind≠4:=by rw[(a1.pre (k2.F.trans k3.F)).kind];exact(Gc _ _ _).2
 refine SG hE k3.x (by omega) (by omega) r1 fun s4 L4 O4 v4 k4 e4 a4=>?_
 have f4:=f3.step k4
 have fg4:=f4.get
 have nF4:=k4.nF
 have nS4:=k4.nS
 have d4:=hd.pre (k1.S.trans (k2.S.trans (k3.S.trans k4.S)))
 have j4:=hj.pre (k1.S.trans (k2.S.trans (k3.S.trans k4.S)))
 simp only[Dt,fg4,Cq,Cw,A9U,A9S,QS,Wg]
 refine Ky hE k4.x (by omega) (by omega) fg4 d4 fun s5 L5 O5 v5 k5 e5 a5=>?_
 have f5:=f4.step k5
 have nF5:=k5.nF
 have nS5:=k5.nS
 have fg5:=f5.get
 generalize hb5:s5.next=b5
 have hs5:s5=ext s5 []:=(Ca s5).symm
 rw[hs5]at fg5
 rw[hs5]
 simp only[Dt,fg5,hb5,EO,Cq,Cw,A9U,A9S,QS,Wg]
 obtain⟨x5,q5,o5⟩:=Ls k5.x (R 3 1 false (Dv [v4,v5]))
 rw[hb5]at q5
 have g5:=f5.old o5
 generalize ext s5 [R 3 1 false (Dv [v4,v5])]=t5 at x5 q5 o5 g5
 have F5:=k4.F.trans k5.F
 refine SG hE x5 (by omega) (by omega) (by have:=r1;have:=GM F5;omega) fun s6 L6 O6 v6 k6 e6 a6=>?_
 have f6:=g5.step k6
 have q6:=q5.step k6
 have fg6:=f6.get
 have nF6:=k6.nF
 have nS6:=k6.nS
 have j6:=j4.pre (k5.S.trans k6.S)
 simp only[Dt,fg6,Cq,Cw,A9U,A9S,QS,Wg]
 refine VJ hE k6.x (by omega) (by omega) fg6 j6 fun s7 L7 O7 v7 k7 e7 a7=>?_
 have f7:=f6.step k7
 have q7:=q6.step k7
 have nF7:=k7.nF
 have nS7:=k7.nS
 have fg7:=f7.get
 generalize hb7:s7.next=b7
 have hs7:s7=ext s7 []:=(Ca s7).symm
 rw[hs7]at fg7
 rw[hs7]
 simp only[Dt,fg7,hb7,EO,Cq,Cw,A9U,A9S,QS,Wg]
 obtain⟨x7,w7,o7⟩:=Ls k7.x (R 3 1 false (Dv [v6,v7]))
 rw[hb7]at w7
 have g7:=f7.old o7
 have y7:=q7.old o7
 generalize ext s7 [R 3 1 false (Dv [v6,v7])]=t7 at x7 w7 o7 g7 y7
 have gg7:=g7.get
 refine LQ hE x7 ?_
 simp only[Dt,gg7,Cq,Cw,A9U,A9S,QS,Wg]
 have d7:=d4.pre (k5.S.trans (k6.S.trans k7.S))
 have j7:=j6.pre k7.S
 refine aa hE x7 (by omega) d7 j7 fun s8 L8 O8 v8 k8 e8 t8=>?_
 have f8:=g7.step k8
 have q8:=y7.step k8
 have w8:=w7.step k8
 have fg8:=f8.get
 have nF8:=k8.nF
 have nS8:=k8.nS
 simp only[Dt,fg8,Cq,Cw,A9U,A9S,QS,Wg]
 have c8:=t2.pre (k3.S.trans (k4.S.trans (k5.S.trans (k6.S.trans (k7.S.trans k8.S)))))
 refine IV hE k8.x (by omega) (by omega) fg8 t8 c8 fun s9 L9 O9 v9 k9 e9 a9=>?_
 have f9:=f8.step k9
 have q9:=q8.step k9
 have w9:=w8.step k9
 have nF9:=k9.nF
 have nS9:=k9.nS
 have fg9:=f9.get
 generalize hb9:s9.next=b9
 have hs9:s9=ext s9 []:=(Ca s9).symm
 rw[hs9]at fg9
 rw[hs9]
 simp only[Dt,fg9,hb9,EO,Cq,Cw,A9U,A9S,QS,Wg]
 obtain⟨x9,z9,o9⟩:=Ls k9.x (R 3 1 false (Dv [v1,v9]))
 rw[hb9]at z9
 have g9:=f9.old o9
 have y9:=q9.old o9
 have u9:=w9.old o9
 generalize ext s9 [R 3 1 false (Dv [v1,v9])]=t9 at x9 z9 o9 g9 y9 u9
 have gg9:=g9.get
 have d9:=d7.pre (k8.S.trans k9.S)
 have c9:=t3.pre (k4.S.trans (k5.S.trans (k6.S.trans (k7.S.trans (k8.S.trans k9.S)))))
 refine IV hE x9 (by omega) (by omega) gg9 d9 c9 fun s10 L10 O10 v10 k10 e10 a10=>?_
 have f10:=g9.step k10
 have q10:=y9.step k10
 have w10:=u9.step k10
 have z10:=z9.step k10
 have fg10:=f10.get
 have nF10:=k10.nF
 have nS10:=k10.nS
 simp only[Dt,fg10,Cq,Cw,A9U,A9S,QS,Wg]
 have hx10:(CP L10.F v10).kind≠4:=by rw[a10.kind];exact(HN _ _ _).2
 refine SG hE k10.x (by omega) (by omega) a10.lt fun s11 L11 O11 v11 k11 e11 a11=>?_
 have f11:=f10.step k11
 have q11:=q10.step k11
 have w11:=w10.step k11
 have z11:=z10.step k11
 have fg11:=f11.get
 have nF11:=k11.nF
 have nS11:=k11.nS
 simp only[Dt,fg11,Cq,Cw,A9U,A9S,QS,Wg]
 have F11:=F5.trans (k6.F.trans (k7.F.trans (k8.F.trans (k9.F.trans (k10.F.trans k11.F)))))
 refine SG hE k11.x (by omega) (by omega) (by have:=r1;have:=GM F11;omega) fun s12 L12 O12 v12 k12 e12 a12=>?_
 have f12:=f11.step k12
 have q12:=q11.step k12
 have w12:=w11.step k12
 have z12:=z11.step k12
 have nF12:=k12.nF
 have nS12:=k12.nS
 generalize hb12:s12.next=b12
 have hs12:s12=ext s12 []:=(Ca s12).symm
 rw[hs12]
 simp only[hb12,EO,A9S,QS,Wg]
 simp only[gX,QS,Wg]
 have hcs:∀n:Nat,(AV.slice (some (n,0)) 4 (some 4)).cells=[AV.slice (some (n,0)) 4 (some 4)]:=fun n=>rfl
 refine iE hE (hcs _) ?_
 simp only[QS,Wg,Nat.reduceAdd]
 have hn13:(ext s12 [R 3 1 false (Dv [v11,v12]),R 30 1 false [.slice (some (nid b5 0,0)) 2 (some 2),.slice (some (nid b7 0,0)) 2 (some 2),.slice (some (nid b9 0,0)) 2 (some 2),.slice (some (nid b12 0,0)) 2 (some 2)]]).next=b12+2:=by rw[Ce,hb12,CN];rfl
 have o13:DL s12.next s12 (ext s12 [R 3 1 false (Dv [v11,v12]),R 30 1 false [.slice (some (nid b5 0,0)) 2 (some 2),.slice (some (nid b7 0,0)) 2 (some 2),.slice (some (nid b9 0,0)) 2 (some 2),.slice (some (nid b12 0,0)) 2 (some 2)]]):=Ci
 have p0:(ext s12 [R 3 1 false (Dv [v11,v12]),R 30 1 false [.slice (some (nid b5 0,0)) 2 (some 2),.slice (some (nid b7 0,0)) 2 (some 2),.slice (some (nid b9 0,0)) 2 (some 2),.slice (some (nid b12 0,0)) 2 (some 2)]]).heap.get (nid b12 0)=some (R 3 1 false (Dv [v11,v12])):=by rw[CR hb12 (by simp)];rfl
 have p1:(ext s12 [R 3 1 false (Dv [v11,v12]),R 30 1 false [.slice (some (nid b5 0,0)) 2 (some 2),.slice (some (nid b7 0,0)) 2 (some 2),.slice (some (nid b9 0,0)) 2 (some 2),.slice (some (nid b12 0,0)) 2 (some 2)]]).heap.get (nid b12 1)=some (R 30 1 false [.slice (some (nid b5 0,0)) 2 (some 2),.slice (some (nid b7 0,0)) 2 (some 2),.slice (some (nid b9 0,0)) 2 (some 2),.slice (some (nid b12 0,0)) 2 (some 2)]):=by rw[CR hb12 (by simp)];rfl
 generalize ext s12 [R 3 1 false (Dv [v11,v12]),R 30 1 false _]=s13 at hn13 o13 p0 p1
 have x13:=k12.x.old o13
 have r0:Kp s13 O12 (nid b12 0) _:=⟨p0,by rw[hn13,CN];omega,k12.x.fresh (by rw[hb12,CN];omega)⟩
 have rr:Kp s13 O12 (nid b12 1) _:=⟨p1,by rw[hn13,CN];omega,k12.x.fresh (by rw[hb12,CN];omega)⟩
 obtain⟨x14,bx,o14⟩:=Ls x13 (R 155 0 false [.slice (some (nid b12 1,0)) 4 (some 4)])
 have Q:=(q12.old o13).old o14
 have Wr:=(w12.old o13).old o14
 have Z:=(z12.old o13).old o14
 have R0:=r0.old o14
 have RR:=rr.old o14
 have k14:Dx [] p s12 L12 O12 (ext s13 [R 155 0 false [.slice (some (nid b12 1,0)) 4 (some 4)]]) L12 O12 0 0:=Dx.old k12.x (o13.trans (o14.mono o13.1))
 generalize ext s13 [R 155 0 false [.slice (some (nid b12 1,0)) 4 (some 4)]]=s14 at x14 bx o14 Q Wr Z R0 RR k14
 have kk:=((((((((((((((((k1.trans k2).trans k3).trans k4).trans k5).trans (Dx.old k5.x o5)).trans k6).trans k7).trans (Dx.old k7.x o7)).trans k8).trans k9).trans (Dx.old k9.x o9)).trans k10).trans k11).trans k12).trans k14)).mono (n':=12) (m':=5) (by omega) (by omega)
 have F12:L3.F <+: L12.F:=k4.F.trans (k5.F.trans (k6.F.trans (k7.F.trans (k8.F.trans (k9.F.trans (k10.F.trans (k11.F.trans k12.F)))))))
 have cl1:∀ {F:List Fm} {x:Int},(0≤x∧x<F.length)∧(CP F x).kind≠3→F <+: L12.F→(0≤x∧x<L12.F.length)∧(CP L12.F x).kind≠3:=fun {F x} hx k=>by
  have:=GM k
  exact⟨⟨by omega,by omega⟩,by rw[Gs k hx.1];exact hx.2⟩
 have nx1:∀ {F:List Fm},L3.F <+: F→(CP F v1).kind≠4:=fun {F} k=>by rw[Gs k r1];exact hx1
 have E11:=k12.F
 have E10:=k11.F.trans E11
 have E9:=k10.F.trans E10
 have E8:=k9.F.trans E9
 have E7:=k8.F.trans E8
 have E6:=k7.F.trans E7
 have E5:=k6.F.trans E6
 have E4:=k5.F.trans E5
 have A1:=a1.pre (k2.F.trans (k3.F.trans F12))
 have A9:=a9.pre E9
 have C1:(0≤v1∧v1<L12.F.length)∧(CP L12.F v1).kind≠3:=⟨A1.lt,by rw[A1.kind];exact(Gc _ _ _).1⟩
 have C4:=cl1 (a4.lt (nx1 k4.F)) E4
 have C5:(0≤v5∧v5<L12.F.length)∧(CP L12.F v5).kind≠3:=⟨(a5.pre E5).lt,by rw[(a5.pre E5).kind];exact(FJ _ _ _).1⟩
 have C6:=cl1 (a6.lt (nx1 (k4.F.trans (k5.F.trans k6.F)))) E6
 have C7:(0≤v7∧v7<L12.F.length)∧(CP L12.F v7).kind≠3:=⟨(a7.pre E7).lt,by rw[(a7.pre E7).kind];exact(FJ _ _ _).1⟩
 have C9:(0≤v9∧v9<L12.F.length)∧(CP L12.F v9).kind≠3:=⟨A9.lt,by rw[A9.kind];exact(HN _ _ _).1⟩
 have C11:=cl1 (a11.lt (by rw[Gs k11.F a10.lt];exact hx10)) E11
 have C12:=a12.lt (nx1 F12)
 refine hK s14 L12 O12 _ [[v4,v5],[v6,v7],[v1,v9],[v11,v12]] kk ?_ ?_ ⟨v1,v9,?_,?_,?_,?_,by simp⟩ (by simp)
 ·intro X hX
  have hnn:nid (nid s12.next 2) 0=nid s13.next 0:=by simp only[CN];omega
  rw[hnn]
  have n1:=k1.nx
  have n2:=k2.nx
  have n3:=k3.nx
  have n4:=k4.nx
  have n5:=k5.nx
  have n6:=k6.nx
  have n7:=k7.nx
  have n8:=k8.nx
  have n9:=k9.nx
  have n10:=k10.nx
  have n11:=k11.nx
  have n12:=k12.nx
  have m5:=o5.1
  have m7:=o7.1
  have m9:=o9.1
  exact ti (bx.up hX (by rw[CN];omega)) (RR.up hX (by rw[CN];omega)) (Q.up hX (by rw[CN];omega)) (Wr.up hX (by rw[CN];omega)) (Z.up hX (by rw[CN];omega)) (R0.up hX (by rw[CN];omega)) rfl rfl rfl rfl
 ·simp only[A9B,A8K,false_imp_iff,implies_true,A9T]
  exact⟨⟨by simp,by simpa using ⟨C4,C5⟩⟩,⟨by simp,by simpa using ⟨C6,C7⟩⟩,⟨by simp,by simpa using ⟨C1,C9⟩⟩,⟨by simp,by simpa using ⟨C11,C12⟩⟩⟩
 ·have S1:L.S <+: L12.S:=k1.S.trans (k2.S.trans (k3.S.trans (k4.S.trans (k5.S.trans (k6.S.trans (k7.S.trans (k8.S.trans (k9.S.trans (k10.S.trans (k11.S.trans k12.S))))))))))
  rw[GI S1 hd.mem hj.mem]
  exact A1
 ·have S8:L8.S <+: L12.S:=k9.S.trans (k10.S.trans (k11.S.trans k12.S))
  rw[F8 S8 t8.mem c8.mem]
  exact A9
 ·exact DA (k9.S.trans (k10.S.trans (k11.S.trans k12.S))) t8.mem
 ·exact DA (k9.S.trans (k10.S.trans (k11.S.trans k12.S))) c8.mem
end
abbrev JT:=CO→LG→List Nat→List (List Int)→Prop
def qY(E:Dw)(l p:Nat)(W:List Nat)(J:JT):Prop:=
 ∀S L O N cv c (K':AV→CO→Prop),J S L O N→Lx S p L O→L.F.length<900000→L.S.length<90000→Cl S cv c→(∀j,EQ cv=some j→j ∉ W++O)→iK L.F c →
  (∀S' L' O',Dx W p S L O S' L' O' 1 0→L'.S=L.S→J S' L' O' (c::N)→K' (.bool true) S')→WR E l [cv] K' S
def A0t(p:Nat)(J:JT):Prop:=∀S L O N S' L' O' n m,J S L O N→Dx [] p S L O S' L' O' n m→J S' L' O' N
theorem bR.len{v:AV}{C:List (List Int)}{S:CO}{X:List Nat}(h:bR v C S X)(s:CO):D9 prog s 155 v=some (iv (C.length:Int)):=by
 obtain⟨r,cap,rfl,_⟩:=h
 exact DQ underlying155
section
variable{E:Dw}(hE:Cn E){l p:Nat}{W:List Nat}{J:JT}(hY:qY E l p W J){b:Nat}{C:List (List Int)}(hC:C.length≤100000)
include hE hY hC
theorem WM{sv:AV}{Q:Da→Prop}:∀ (rest done:List (List Int))(S:CO)(L:LG)(O:List Nat)(N:List (List Int))(x2 x6 x7:AV),C=done++rest→Lx S p L O→J S L O N→L.F.length+rest.length<900000→L.S.length<90000 →
  Ap S (W++O) (bR sv C)→(∀c∈rest,iK L.F c) →
  (∀S' L' O' var,Dx W p S L O S' L' O' rest.length 0→L'.S=L.S→J S' L' O' (rest.reverse++N)→Cs 0 Q ⟨.exit 0,var,[],S'⟩) →
  WC E none (Ck.loop QV) (Cs 0 Q) [.yield l,.ptr (some (b,0)),x2,sv,iv (C.length:Int),iv (done.length:Int),x6,x7] [] S:=by
 intro rest
 induction rest with
 | nil =>
  intro done S L O N x2 x6 x7 hd hx hj hF hS har hcl hq
  have:C=done:=by simpa using hd
  subst this
  refine WC.loop' ?_
  simp only[QV,ZF,A8l,A9a,Qa,Qb,QS]
  exact hq S L O _ (Dx.refl hx) rfl hj
 | cons c rest ih =>
  intro done S L O N x2 x6 x7 hd hx hj hF hS har hcl hq
  refine WC.loop' ?_
  obtain⟨V,hV⟩:∃V,V=Ck.loop QV:=⟨_,rfl⟩
  rw[← hV]
  have hlt:((done.length:Int)<(C.length:Int)):=by rw[hd];simp;omega
  have hltn:done.length<C.length:=by omega
  have hat:C[done.length]? = some c:=by rw[hd];simp
  obtain⟨r,cap,rfl,hrows⟩:=har.rd
  obtain⟨cv,hld,hrd,hsl⟩:=hrows _ _ hat
  have e1:=Cj (P:=prog) (cap:=cap) (i:=r) (o:=0) underlying155 aw hltn
  have hadd:i64 ((done.length:Int)+1):=by unfold i64;omega
  simp only[A8P]at hF
  simp only[QV,ZF,kV,kW,hlt,A9Z,Qa,Qb,QS,e1,IT,hld,A8S,Wg]
  refine hY S L O N cv c _ hj hx (by omega) hS hrd hsl (hcl c A8M) fun S' L' O' k1 k2 k3=>?_
  simp only[kX,Db _ _ _ _ hadd,Qb,QS]
  have nF:=k1.nF
  have:=ih (done++[c]) S' L' O' (c::N) cv (.bool true) (.bool false) (by rw[hd];simp) k1.x k3 (by omega) (by rw[k2];exact hS) (har.stp k1) (fun c' hc'=>(hcl c' (A8J _ hc')).pre k1.F)
   (fun S2 L2 O2 var q1 q2 q3=>hq S2 L2 O2 var ((k1.trans q1).mono (by simp only[A8P];omega) (by omega)) (q2.trans k2) (by rw[List.reverse_cons,A8n];exact q3))
  rw[← hV,show(done++[c]).length=done.length+1 from by simp]at this
  exact this
theorem bD{s:CO}{L:LG}{O:List Nat}{N:List (List Int)}(h:Lx s p L O)(hj:J s L O N)(hF:L.F.length+C.length<900000)(hS:L.S.length<90000)(har:QH s (W++O) (.func 132 [] [.ptr (some (b,0))]) C)(hcl:∀c∈C,iK L.F c){K:AV→CO→Prop}
  (hK:∀S' L' O',Dx W p s L O S' L' O' C.length 0→L'.S=L.S→J S' L' O' (C.reverse++N)→K (.tuple []) S'):WF E 132 [.yield l,.ptr (some (b,0))] K s:=by
 refine hE.go rz (by decide) rfl ?_
 obtain⟨b',sv,hb',hg,har2⟩:=har
 injection hb' with _ _ hb'
 simp only[List.cons.injEq,AV.ptr.injEq,A9b,Prod.mk.injEq,A9T]at hb'
 subst hb'
 have hlen:=har2.rd.len
 have hgg:=hg.get
 simp only[A4c,kU,hgg,A4B,hlen,Qa,Qb,QS,Wg]
 refine WM hE hY hC C [] s L O N _ _ _ rfl h hj hF hS har2 hcl fun S' L' O' var k1 k2 k3=>?_
 simp only[QS]
 rw[if_pos trivial]
 exact hK S' L' O' k1 k2 k3
end
end
end Go.Proofs.YtoaaclpjkelofaaGreatDoor.Am
