/- Package nat: Mul, walked; conditions: none. -/
import Derived.Test.YtoaaclpjkelofaaGreatDoorAmM06
import Derived.Test.YtoaaclpjkelofaaGreatDoorProg
import Derived.Test.YtoaaclpjkelofaaGreatDoorAmM05
import Derived.Test.YtoaaclpjkelofaaGreatDoorAmM01
set_option linter.unusedVariables false
set_option linter.unusedSimpArgs false
set_option maxRecDepth 12000
namespace Go.Proofs.YtoaaclpjkelofaaGreatDoor.Am
open Go Go.Proofs
noncomputable section
section
variable{E:Ck}{s:AD}
theorem gO       {s1 : AD}  {qi : Nat} {a b : Option (Nat × Nat)} {ca cb : Option Nat} {la lb : List Nat} (hca : Aj      qi s1 a (us la)) (hcb : Aj      qi s1 b (us lb)) (hla : la.length ≤ 10000000000) (hlb : lb.length ≤ 10000000000) (hsa : BZ  la) (hsb : BZ  lb) {Q : Ax   → Prop} (y2 : AV)
    (hq:∀ (s':AD) (cu:List Nat) (y4 y5 y6 y7 y8 y11 y12 y13 y14 y15 y16:AV),Cm s1 s' qi none→CH s' qi (us cu) none→YW la lb cu la.length →
      Q ⟨.exit 0,[.slice a la.length ca,.slice b lb.length cb,y2,.slice (some (qi,0)) (la.length+lb.length) (some (la.length+lb.length)),y4,y5,y6,y7,y8,.slice a la.length ca,iv (la.length:Int),y11,y12,y13,y14,y15,y16],[],s'⟩):
    ∀ (k i:Nat) (s':AD) (cu:List Nat) (x4 x5 x6 x7 x8 x12 x13 x14 x15 x16:AV),i+k=la.length→Cm s1 s' qi none→CH s' qi (us cu) none→YW la lb cu i →
      WC E none (.loop Iw) Q [.slice a la.length ca,.slice b lb.length cb,y2,.slice (some (qi,0)) (la.length+lb.length) (some (la.length+lb.length)),x4,x5,x6,x7,x8,.slice a la.length ca,iv (la.length:Int),iv (i:Int),x12,x13,x14,x15,x16] [] s':=by
  intro k
  induction k with
  | zero =>
    intro i s' cu x4 x5 x6 x7 x8 x12 x13 x14 x15 x16 hik ho hg hm
    have e:i=la.length:=by omega
    subst e
    have dd:decide ((la.length:Int)<(la.length:Int))=false:=decide_eq_false (by omega)
    refine WC.loop' ?_
    simp only[Iw,UM,Rx,dd,Qa,Qb,Qc,Qd,Qf,Qh,Qj,Qm,Qn,true_and,Qo,Qp,Qq,Qr,Qs,Qu,Qz,Ra,Rc,Rd,Rx]
    exact hq s' cu _ _ _ _ _ _ _ _ _ _ _ ho hg hm
  | succ k ih =>
    intro i s' cu x4 x5 x6 x7 x8 x12 x13 x14 x15 x16 hik ho hg hm
    have hi:i<la.length:=by omega
    have hx:la[i]? = some la[i]:=tQ hi
    generalize la[i]=x at hx
    have hxs:x<4294967296:=hsa x (tf hx)
    have hstep:=hm.step hx hxs hsb
    obtain⟨pi,o,rfl,hpi,hload⟩:=hca i _ (DT hx)
    have dd:decide ((i:Int)<(la.length:Int))=true:=decide_eq_true (by omega)
    have e1:=Aw (cap:=ca) (i:=pi) (o:=o) Tryz.underlying77 Bs hi
    have e2:AG Tryz.prog s' 185 (.ptr (some (pi,o+i * 1)))=some (BS x):=CK FP (by rw[tT,EN (ho.get pi (by omega) (by simp))];exact hload)
    have hTl:(Fv x (lb.zip (cu.drop i)) 0).1.length=lb.length:=by
      rw[NN,uf,uN,hm.len];omega
    generalize hT:Fv x (lb.zip (cu.drop i)) 0=T at *
    have hlen:=hm.len
    have hil:i+T.1.length<cu.length:=by omega
    refine WC.loop' ?_
    generalize hW:WC E none (Aa.loop Iw) Q=WW
    simp only[Iw,UM,aj,ak,ao,AW Tryz.underlying77,Rx,dd,e1,e2,Qa,Qb,Qc,Qd,Qf,Qh,Qi,Qj,Qk,Qm,Qn,true_and,Qo,Qp,Qq,Qr,Qs,Qu,Qy,Ra,Rc,Rd,Rx]
    refine iJ (s1:=s1) (x:=x) hxs (ui:=qi) (off:=i) (N:=la.length+lb.length) (cu:=cu) (w:=lb) (a9:=b) (c9:=cb) (b:=qi) hm.len.symm (by omega) (by omega) hm.sm hsb hcb (tJ _) (T:=T) _ _ _ _ _ _ _ (fun s2 y7 y8 y15 y16 ho2 hg2=>?_) lb s' 0 [] _ _ _ rfl (tV _) ho (by decide) (by rw[← hT];rfl) (by rw[RF];exact hg)
    have e3:=Bz Tryz.prog 3 (i:Int) (lb.length:Int) ⟨by omega,by omega⟩
    have e3':((i:Int)+(lb.length:Int))=((i+lb.length:Nat):Int):=by omega
    have e4:=Aw (cap:=some (la.length+lb.length)) (i:=qi) (o:=0) Tryz.underlying77 Bs (show i+lb.length<la.length+lb.length by omega)
    have hT2:T.2<4294967296:=by
      rw[← hT]
      exact(IY (x:=x) hxs (fun p hp=>by
        have:=List.of_mem_zip (a:=p.1) (b:=p.2) hp
        exact⟨hsb _ this.1,hm.sm.drop i _ this.2⟩) A7).1
    have e5:T.2 % 4294967296=T.2:=tr hT2
    have hlm:0+(i+lb.length) * 1<(us (F3 cu i T.1)).length:=by rw[Ca,HS (by omega)];omega
    obtain⟨s3,e16,w1,w2,w3⟩:=D8 (P:=Tryz.prog) (t:=185) (v:=BS T.2) Bs hg2 hlm rfl
    rw[tT,tR]at e16 e4
    rw[tT,tR,Kr,← hTl,MC hil]at w1
    have e17:=Bz Tryz.prog 3 (i:Int) 1 ⟨by omega,by omega⟩
    have e17':((i:Int)+1)=((i+1:Nat):Int):=by omega
    simp only[V8,V9,if_true,AW Tryz.underlying77,Bj,e3,e3',e4,e5,e16,e17,e17',Xx,Xz,Qb,Qc,Qd,Qf,Qh,Qi,Qj,Qk,Qm,Qn,true_and,Qo,Qp,Qq,Qr,Qs,Qu,Ra,Rc,Rf]
    rw[← hW]
    exact ih (i+1) s3 _ _ _ _ _ _ _ _ _ _ _ (by omega) (ho2.step w2 w3) w1 hstep
theorem VL(hE:Ak E){va vb:AV}{la lb:List Nat}(ha:Cl s va la)(hb:Cl s vb lb)(hla:la.length≤1000000000)(hlb:lb.length≤1000000000)(hsa:BZ la)(hsb:BZ lb){K:AV→AD→Prop}
  (hK:∀s' v,A9 s.next s s'→NR s.next s' v (AK (AC la * AC lb))→K v s'):WF E 192 [va,vb] K s:=by
 obtain⟨a,ca,rfl,hcapa,hca⟩:=ha
 obtain⟨b,cb,rfl,hcapb,hcb⟩:=hb
 have e0:=Bz Tryz.prog 3 (la.length:Int) (lb.length:Int) ⟨by omega,by omega⟩
 have e0':((la.length:Int)+(lb.length:Int))=((la.length+lb.length:Nat):Int):=by omega
 have e1:=RC (la.length+lb.length) (by omega)
 have ho:=A9.new s (R 185 1 false (us (List.replicate (la.length+lb.length) 0)))
 refine hE.go jb (by decide) rfl ?_
 simp only[qU,af,ah,ai,AW Tryz.underlying77,e0,e0',e1,Xx,Xd,Qa,Qb,Qc,Qd,Qf,Qh,Qi,Qj,Qk,Ql,Qm,Qn,true_and,Qo,Qp,Qq,Qr,Qs,Qu,Ra,Rg,Rj,Rk,Rm,Yc]
 have hg0:(newObj s (R 185 1 false (us (List.replicate (la.length+lb.length) 0)))).heap.get s.next=some (R 185 1 false (us (List.replicate (la.length+lb.length) 0))):=by
  rw[AQ,if_pos rfl]
 have hR0:YW la lb (List.replicate (la.length+lb.length) 0) 0:=by
  refine⟨by simp,fun x hx=>by rw[List.eq_of_mem_replicate hx];exact A7,?_,?_⟩
  ·rw[Hf,uz]
   show 0=0 * _
   rw[Nat.zero_mul]
  ·rw[List.drop_replicate]
   congr 1
   omega
 refine gO (s1:=newObj s (R 185 1 false (us (List.replicate (la.length+lb.length) 0)))) (qi:=s.next) (hca.old ho (tJ _)) (hcb.old ho (tJ _)) (by omega) (by omega) hsa hsb _
  (fun s' cu y4 y5 y6 y7 y8 y11 y12 y13 y14 y15 y16 o' hg' hm=>?_) la.length 0 _ _ _ _ _ _ _ _ _ _ _ _ (by omega) (Cm.refl _ _ _) (CH.of_R hg0) hR0
 have hsn:s'.next=s.next+1:=o'.next
 have hq:Cl s' (.slice (some (s.next,0)) (la.length+lb.length) (some (la.length+lb.length))) cu:=
  ⟨some (s.next,0),some (la.length+lb.length),by rw[hm.len],.inl ⟨_,rfl,by have:=hm.len;omega,fun e=>by cases e⟩,KK hg' (by omega)⟩
 simp only[WA,if_true,Qb,Qc,Qd,Qf,Qh,Qj,Qk,Qm,Qn,true_and,Qq,Qr,Qs,Qu,Ra,Rc,Rf,Ri]
 refine CA hE hq (by have:=hm.len;omega) fun s2 v2 o2 r2=>?_
 rw[BN hm.sm,hm.val,List.take_length]at r2
 simp only[Qd,Qn,true_and,Qo,Qp,Qq,Qr]
 exact hK s2 v2 (ho.trans (A9.trans ⟨by have:s.next≤(newObj s (R 185 1 false (us (List.replicate (la.length+lb.length) 0)))).next:=t7 _;have:=o'.next;omega,fun j hj=>o'.get j (by omega) (by simp)⟩ (o2.mono (by omega)))) (r2.mono (by omega))
end
end
end Go.Proofs.YtoaaclpjkelofaaGreatDoor.Am
set_option linter.unusedVariables false
set_option linter.unusedSimpArgs false
namespace Go.Proofs.YtoaaclpjkelofaaGreatDoor.Am
open Go Go.Proofs
noncomputable section
theorem O8{s s':AD}{l:Nat}(h:s'.heap.get l=s.heap.get l):Bc s' l=Bc s l:=by unfold Bc;rw[h]
theorem GS(s:AD)(l:Nat)(r:FO):Bc (setObj s l (.loop r)) l=some r:=by unfold Bc;rw[NA,if_pos rfl]
def SA(Q:Ax→Prop)(var:List AV)(marks:List Nat)(s:AD)(pd:Option Code):Prop:=match pd with
 | none=>Q ⟨.normal,var,marks,s⟩
 | some .ret=>Q ⟨.ret,var,marks,s⟩
 | some (.exit id)=>Q ⟨.exit id,var,marks,s⟩
 | some _=>False
theorem gx{Q:Ax→Prop}{var:List AV}{marks:List Nat}{s:AD}{pd:Option Code}(h:SA Q var marks s pd):∃r,Gm var marks s pd=some r∧Q r:=by
 unfold SA at h
 unfold Gm
 split at h
 ·exact⟨_,rfl,h⟩
 ·exact⟨_,rfl,h⟩
 ·exact⟨_,rfl,h⟩
 ·exact h.elim
def MB(fn:FuncId)(var:List AV)(ps:Array Tmp)(a b:Code)(dfr:Nat):FO:={ state:=.ready,pending:=none,fn,var,params:=ps,assign:=a,body:=b,dfr }
theorem WC.range{E:Ck}{Q:Ax→Prop}{var:List AV}{marks:List Nat}{s:AD}{fn:FuncId}{f:CX}{ps:Array Tmp}{a b:Code}{g:FuncId}{first cap:List AV}(hf:Cc [] var f=.func g first cap)
  (h:WF E g (first++([.yield (s.next+1)]++cap)) (fun _ s'=>∃r,Bc s' (s.next+1)=some r∧VB r.state=false∧SA Q var (s.next::marks) (setObj s' (s.next+1) (.loop { r with state:=.exhausted })) r.pending)
   (newObj (newObj s .mark) (.loop (MB fn var ps a b s.next)))):WC E none (.rangeFunc fn f ps a b) Q var marks s:=by
 obtain⟨n,p,h1,r,h2,h3,h4⟩:=h
 obtain⟨res,h5,h6⟩:=gx h4
 refine⟨n+1,res,?_,h6⟩
 show CR (DF E n) none (.rangeFunc fn f ps a b) var marks s=some res
 simp only[CR,Mf,FQ,HM,hf,Gq]
 have e:(newObj s .mark).next=s.next+1:=rfl
 rw[e]
 have h1':=h1
 unfold MB at h1'
 rw[h1']
 simp only[Option.bind_some,h2,h3,cond_false,h5]
theorem WR.round{E:Ck}{K:AV→AD→Prop}{l:Nat}{xs:List AV}{s:AD}{r:FO}{var:List AV}{ca cb:Aa}(h1:Bc s l=some r)(h2:EA (Ec E.P r.fn) r.var r.params.toList xs=some var)
  (h3:GG E.P r.fn r.assign=some ca) (h4:GG E.P r.fn r.body=some cb)
  (h:WC E (some l) ca (fun q=>q.exit=.normal∧∃r',Bc q.st l=some r'∧L8 r'.state=true ∧
   WC E (some l) cb (fun q2=>∃r'',Bc q2.st l=some r''∧K (.bool (Cn q2.exit).isNone) (setObj q2.st l (.loop { r'' with state:=Hc (Cn q2.exit),pending:=Cn q2.exit }))) q.var q.marks (setObj q.st l (.loop { r' with state:=.busy }))) var [] s):WR E l xs K s:=by
 obtain⟨n,q,g1,g2,r',g3,g4,m,q2,g5,r'',g6,g7⟩:=h
 refine⟨max n m+1,(_,_),?_,g7⟩
 show Lj E (DF E (max n m)) l xs s=_
 simp only[Lj,h1,Option.bind_some,h2,h3,h4,HX,(Ga E (Nat.le_max_left n m)).code g1,g2,Gy,cond_true,g3,g4,Jw,(Ga E (Nat.le_max_right n m)).code g5,g6]
 rfl
def B5:Code→List (Code×Code)
 | .seq x y=>B5 x++B5 y
 | .cond _ x y=>B5 x++B5 y
 | .block _ c=>B5 c
 | .loop c=>B5 c
 | .scope c=>B5 c
 | .rangeFunc _ _ a b=>B5 a++B5 b++[(a,b)]
 | _=>[]
def ME (f k:Nat):Code×Code:=(((Tryz.prog.funcs[f]?).bind fun fn=>fn.body.bind fun c=>(B5 c)[k]?)).getD (.skip,.skip)
end
end Go.Proofs.YtoaaclpjkelofaaGreatDoor.Am
set_option linter.unusedVariables false
set_option linter.unusedSimpArgs false
set_option maxRecDepth 100000
namespace Go.Proofs.YtoaaclpjkelofaaGreatDoor.Am
open Go Go.Proofs
noncomputable section
def eR:List AB:=[
 ⟨none,.mk (fun l=>match l with | [v]=>DD 77 v | _=>none),[.var 0],(.set 2),[]⟩,
 ⟨none,.mk (fun l=>match l with | [v]=>DD 77 v | _=>none),[.var 1],(.set 3),[]⟩,
 ⟨none,.p1 some,[(.const .nilFunc)],(.set 4),[]⟩]
def eS:List AB:=[
 ⟨none,.mk (fun l=>match l with | []=>At Tryz.prog 292 | _=>none),[],(.set 5),[]⟩,
 ⟨none,.e (fun s=>Xx (fun a x=>Xz (AY Tryz.prog s 292 a x))),[(.var 5),(.const (.func 253 [] []))],.push,[]⟩]
def eT:List AB:=[
 ⟨none,.p (fun l=>some (.func 254 (l.take 0) (l.drop 0))),[.var 2,.var 3,.var 5],.push,[]⟩,
 ⟨none,.p1 some,[.loc 0],(.set 4),[]⟩]
def rE:Au:=⟨2,6,(.seq (.ops eR) (.seq (.ops eS) (.seq (.ops eT) .ret))),[((.var 4),none)]⟩
def Ui:List AB:=[
 ⟨none,.p1 some,[(.const (.int .u64 (0)))],(.set 2),[]⟩]
def Uj:List AB:=[
 ⟨none,.r (fun s l=>match l with | [x]=>Bb Tryz.prog s 77 x | _=>none),[.var 0],.push,[]⟩,
 ⟨none,.p2 (AP Tryz.prog .geq 3),[.var 1,.loc 0],(.set 3),[]⟩]
def eU:List AB:=[
 ⟨none,.p1 some,[(.const (.int .u64 (0)))],(.set 2),[]⟩]
def eV:List AB:=[
 ⟨none,.p2 (AR Tryz.prog 77),[.var 0,.var 1],.push,[]⟩,
 ⟨none,.r1 (fun s a=>AG Tryz.prog s 185 a),[.loc 0],.push,[]⟩,
 ⟨none,.r1 (fun s x=>Ac Tryz.prog s 185 187 x),[.loc 0],.push,[]⟩,
 ⟨none,.p1 some,[.loc 0],(.set 2),[]⟩]
def nm:Au:=⟨2,4,(.seq (.ops Ui) (.seq (.seq (.ops Uj) (.cond (.var 3)
 (.seq (.ops eU) .ret)
 .skip)) (.seq (.ops eV) .ret))),[((.var 2),none)]⟩
def eW:List AB:=[
 ⟨none,.r1 (fun s a=>AG Tryz.prog s 77 a),[.var 1],.push,[]⟩,
 ⟨none,.r (fun s l=>match l with | [x]=>Bb Tryz.prog s 77 x | _=>none),[.loc 0],.push,[]⟩,
 ⟨none,.r1 (fun s a=>AG Tryz.prog s 77 a),[.var 2],.push,[]⟩,
 ⟨none,.r (fun s l=>match l with | [x]=>Bb Tryz.prog s 77 x | _=>none),[.loc 0],.push,[]⟩,
 ⟨none,.p (fun l=>match l with | v::l=>GT true v l | []=>none),[.loc 2,.loc 0],(.set 5),[]⟩,
 ⟨none,.p1 some,[(.const (.int .i64 (0)))],(.set 6),[]⟩]
def Uk:List AB:=[
 ⟨none,.p2 (AP Tryz.prog .lss 3),[.var 6,.var 5],(.set 7),[]⟩]
def eX:List AB:=[
 ⟨none,.p1 some,[.var 6],(.set 4),[]⟩]
def eY:List AB:=[
 ⟨none,.r1 (fun s a=>AG Tryz.prog s 292 a),[.var 3],.push,[]⟩,
 ⟨none,.r1 (fun s a=>AG Tryz.prog s 77 a),[.var 1],.push,[]⟩,
 ⟨none,.r1 (fun s a=>AG Tryz.prog s 292 a),[.var 3],.push,[]⟩,
 ⟨none,.r1 (fun s a=>AG Tryz.prog s 77 a),[.var 2],.push,[]⟩,
 ⟨none,.callv,[.loc 3,.loc 2,.var 4],.push,[⟨none,.r1 (fun s a=>AG Tryz.prog s 77 a),[.var 2],(.loc 1)⟩,⟨none,.r1 (fun s a=>AG Tryz.prog s 292 a),[.var 3],(.loc 2)⟩]⟩,
 ⟨none,.callv,[.loc 2,.loc 1,.var 4],.push,[]⟩,
 ⟨none,.callv,[.var 0,.loc 1,.loc 0],.push,[]⟩,
 ⟨none,.p1 (p5 Tryz.prog Go.UnOp.not),[.loc 0],(.set 8),[]⟩]
def eZ:List AB:=[
 ⟨none,.p2 (AP Tryz.prog .add 3),[(.var 6),(.const (.int .i64 (1)))],.push,[]⟩,
 ⟨none,.p1 some,[.loc 0],(.set 6),[]⟩]
def Md:Aa:=(.seq (.ops Uk) (.seq (.cond (.var 7)
 .skip
 (.exit 0)) (.seq (.block 1 (.seq (.ops eX) (.seq (.ops eY) (.cond (.var 8)
 .ret
 .skip)))) (.ops eZ))))
def rF:Au:=⟨4,9,(.seq (.ops eW) (.block 0 (.loop Md))),[]⟩
def eH:List AB:=[
 ⟨none,.p1 some,[(.const (.slice none 0 (some 0)))],(.set 1),[]⟩]
def eI:List AB:=[
 ⟨none,.p1 some,[.var 0],(.set 7),[]⟩,
 ⟨none,.r (fun s l=>match l with | [x]=>Bb Tryz.prog s 291 x | _=>none),[.var 7],(.set 8),[]⟩,
 ⟨none,.p1 some,[(.const (.int .i64 (0)))],(.set 9),[]⟩]
def Ug:List AB:=[
 ⟨none,.p2 (AP Tryz.prog .lss 3),[.var 9,.var 8],(.set 10),[]⟩]
def eJ:List AB:=[
 ⟨none,.p2 (AR Tryz.prog 291),[.var 7,.var 9],.push,[]⟩,
 ⟨none,.r1 (fun s a=>AG Tryz.prog s 77 a),[.loc 0],.push,[]⟩,
 ⟨none,.p1 some,[.loc 0],(.set 2),[]⟩]
def eK:List AB:=[
 ⟨none,.mk (fun l=>match l with | []=>At Tryz.prog 77 | _=>none),[],(.set 3),[]⟩]
def eL:List AB:=[
 ⟨none,.mk (fun l=>match l with | []=>At Tryz.prog 187 | _=>none),[],(.set 4),[]⟩,
 ⟨none,.e (fun s=>Xx (fun a x=>Xz (AY Tryz.prog s 187 a x))),[(.var 4),(.const (.int .u64 (0)))],.push,[]⟩]
def eM:List AB:=[
 ⟨none,.call 248,[.var 1,.var 2],(.set 11),[]⟩]
def eN:List AB:=[
 ⟨none,.p1 some,[.var 12],(.set 5),[]⟩]
def eO:List AB:=[
 ⟨none,.p1 some,[.var 13],(.set 6),[]⟩]
def eP:List AB:=[
 ⟨none,.r1 (fun s a=>AG Tryz.prog s 187 a),[.var 4],.push,[]⟩,
 ⟨none,.p2 (AP Tryz.prog .add 187),[.var 5,.var 6],.push,[]⟩,
 ⟨none,.p2 (AP Tryz.prog .add 187),[.loc 1,.loc 0],.push,[]⟩,
 ⟨none,.e (fun s=>Xx (fun a x=>Xz (AY Tryz.prog s 187 a x))),[.var 4,.loc 0],.push,[]⟩]
def WZ:List AB:=[
 ⟨none,.r1 (fun s a=>AG Tryz.prog s 77 a),[.var 3],.push,[]⟩,
 ⟨none,.r1 (fun s a=>AG Tryz.prog s 187 a),[.var 4],.push,[]⟩,
 ⟨none,.p2 (AP Tryz.prog .and 187),[(.loc 0),(.const (.int .u64 (4294967295)))],.push,[]⟩,
 ⟨none,.r1 (fun s x=>Ac Tryz.prog s 187 185 x),[.loc 0],.push,[]⟩,
 ⟨none,.mk (fun l=>(An Tryz.prog 77 1 (zipIdx [0] l)).bind fun r=>some (r,.slice 1)),[.loc 0],.push,[]⟩,
 ⟨none,.e (fun s l=>Ay Tryz.prog s [77,77] l),[.loc 4,.loc 0],.push,[]⟩,
 ⟨none,.e (fun s=>Xx (fun a x=>Xz (AY Tryz.prog s 77 a x))),[.var 3,.loc 0],.push,[]⟩]
def Wc:List AB:=[
 ⟨none,.r1 (fun s a=>AG Tryz.prog s 187 a),[.var 4],.push,[]⟩,
 ⟨none,.p2 (AP Tryz.prog .shr 187),[(.loc 0),(.const (.int .u64 (32)))],.push,[]⟩,
 ⟨none,.e (fun s=>Xx (fun a x=>Xz (AY Tryz.prog s 187 a x))),[.var 4,.loc 0],.push,[]⟩]
def SR:Aa:=(.seq (.ops eN) (.ops eO))
def SS:Aa:=(.block 3 (.seq (.ops eP) (.seq (.ops WZ) (.ops Wc))))
def QJ:Code:=(ME 247 0).1
def QK:Code:=(ME 247 0).2
theorem eF:GG Tryz.prog 247 QJ=some SR:=by kernel_rfl
theorem eG:GG Tryz.prog 247 QK=some SS:=by kernel_rfl
theorem Uh:Ec Tryz.prog 247=[0,2,4,5,6,7,8,9,10,11,12,17,18,19]:=by kernel_rfl
def Wi:List AB:=[
 ⟨none,.r1 (fun s a=>AG Tryz.prog s 77 a),[.var 3],.push,[]⟩,
 ⟨none,.r1 (fun s a=>AG Tryz.prog s 187 a),[.var 4],.push,[]⟩,
 ⟨none,.r1 (fun s x=>Ac Tryz.prog s 187 185 x),[.loc 0],.push,[]⟩,
 ⟨none,.mk (fun l=>(An Tryz.prog 77 1 (zipIdx [0] l)).bind fun r=>some (r,.slice 1)),[.loc 0],.push,[]⟩,
 ⟨none,.e (fun s l=>Ay Tryz.prog s [77,77] l),[.loc 3,.loc 0],.push,[]⟩,
 ⟨none,.p1 some,[.loc 0],(.set 1),[]⟩]
def Ws:List AB:=[
 ⟨none,.p2 (AP Tryz.prog .add 3),[(.var 9),(.const (.int .i64 (1)))],.push,[]⟩,
 ⟨none,.p1 some,[.loc 0],(.set 9),[]⟩]
def Iz:Aa:=(.seq (.ops Ug) (.seq (.cond (.var 10)
 .skip
 (.exit 0)) (.seq (.block 1 (.seq (.ops eJ) (.seq (.ops eK) (.seq (.ops eL) (.seq (.seq (.ops eM) (.block 2 (.rangeFunc 247 (.var 11) #[18,19] QJ QK))) (.ops Wi)))))) (.ops Ws))))
def W0:List AB:=[
 ⟨none,.p1 some,[.var 1],.push,[]⟩,
 ⟨none,.call 202,[.loc 0],.push,[]⟩,
 ⟨none,.p1 some,[.loc 0],(.set 1),[]⟩]
def rD:Au:=⟨1,14,(.seq (.ops eH) (.seq (.seq (.ops eI) (.block 0 (.loop Iz))) (.seq (.ops W0) .ret))),[((.var 1),none)]⟩
def dj:List AB:=[
 ⟨none,.p1 some,[(.const (.slice none 0 (some 0)))],(.set 2),[]⟩]
def dk:List AB:=[
 ⟨none,.mk (fun l=>(An Tryz.prog 291 2 (zipIdx [0,1] l)).bind fun r=>some (r,.slice 2)),[.var 0,.var 1],.push,[]⟩,
 ⟨none,.call 247,[.loc 0],.push,[]⟩,
 ⟨none,.p1 some,[.loc 0],(.set 2),[]⟩]
def rB:Au:=⟨2,3,(.seq (.ops dj) (.seq (.ops dk) .ret)),[((.var 2),none)]⟩
def dr:List AB:=[
 ⟨none,.p1 some,[(.const (.slice none 0 (some 0)))],(.set 2),[]⟩,
 ⟨none,.p1 some,[(.const (.bool false))],(.set 3),[]⟩]
def du:List AB:=[
 ⟨none,.call 233,[.var 0,.var 1],.push,[]⟩,
 ⟨none,.p2 (AP Tryz.prog .lss 3),[(.loc 0),(.const (.int .i64 (0)))],(.set 9),[]⟩]
def dv:List AB:=[
 ⟨none,.p1 some,[(.const (.slice none 0 (some 0)))],(.set 2),[]⟩,
 ⟨none,.p1 some,[(.const (.bool false))],(.set 3),[]⟩]
def dw:List AB:=[
 ⟨none,.mk (fun l=>match l with | []=>At Tryz.prog 77 | _=>none),[],(.set 4),[]⟩]
def dx:List AB:=[
 ⟨none,.mk (fun l=>match l with | []=>At Tryz.prog 187 | _=>none),[],(.set 5),[]⟩,
 ⟨none,.e (fun s=>Xx (fun a x=>Xz (AY Tryz.prog s 187 a x))),[(.var 5),(.const (.int .u64 (0)))],.push,[]⟩]
def dy:List AB:=[
 ⟨none,.call 248,[.var 0,.var 1],(.set 10),[]⟩]
def dz:List AB:=[
 ⟨none,.p1 some,[.var 11],(.set 6),[]⟩]
def d8:List AB:=[
 ⟨none,.p1 some,[.var 12],(.set 7),[]⟩]
def eC:List AB:=[
 ⟨none,.p2 (AP Tryz.prog .sub 187),[.var 6,.var 7],.push,[]⟩,
 ⟨none,.r1 (fun s a=>AG Tryz.prog s 187 a),[.var 5],.push,[]⟩,
 ⟨none,.p2 (AP Tryz.prog .sub 187),[.loc 1,.loc 0],.push,[]⟩,
 ⟨none,.p1 some,[.loc 0],(.set 8),[]⟩]
def eE:List AB:=[
 ⟨none,.r1 (fun s a=>AG Tryz.prog s 77 a),[.var 4],.push,[]⟩,
 ⟨none,.p2 (AP Tryz.prog .and 187),[(.var 8),(.const (.int .u64 (4294967295)))],.push,[]⟩,
 ⟨none,.r1 (fun s x=>Ac Tryz.prog s 187 185 x),[.loc 0],.push,[]⟩,
 ⟨none,.mk (fun l=>(An Tryz.prog 77 1 (zipIdx [0] l)).bind fun r=>some (r,.slice 1)),[.loc 0],.push,[]⟩,
 ⟨none,.e (fun s l=>Ay Tryz.prog s [77,77] l),[.loc 3,.loc 0],.push,[]⟩,
 ⟨none,.e (fun s=>Xx (fun a x=>Xz (AY Tryz.prog s 77 a x))),[.var 4,.loc 0],.push,[]⟩]
def WX:List AB:=[
 ⟨none,.p2 (AP Tryz.prog .shr 187),[(.var 8),(.const (.int .u64 (63)))],.push,[]⟩,
 ⟨none,.e (fun s=>Xx (fun a x=>Xz (AY Tryz.prog s 187 a x))),[.var 5,.loc 0],.push,[]⟩]
def SP:Aa:=(.seq (.ops dz) (.ops d8))
def SQ:Aa:=(.block 1 (.seq (.ops eC) (.seq (.ops eE) (.ops WX))))
def QF:Code:=(ME 243 0).1
def QG:Code:=(ME 243 0).2
theorem dm:GG Tryz.prog 243 QF=some SP:=by kernel_rfl
theorem dp:GG Tryz.prog 243 QG=some SQ:=by kernel_rfl
theorem Uf:Ec Tryz.prog 243=[0,1,4,5,6,7,8,9,10,14,17,18,19]:=by kernel_rfl
def WY:List AB:=[
 ⟨none,.r1 (fun s a=>AG Tryz.prog s 77 a),[.var 4],.push,[]⟩,
 ⟨none,.call 202,[.loc 0],.push,[]⟩,
 ⟨none,.p1 some,[.loc 0],(.set 2),[]⟩,
 ⟨none,.p1 some,[(.const (.bool true))],(.set 3),[]⟩]
def rC:Au:=⟨2,13,(.seq (.ops dr) (.seq (.seq (.ops du) (.cond (.var 9)
 (.seq (.ops dv) .ret)
 .skip)) (.seq (.ops dw) (.seq (.ops dx) (.seq (.seq (.ops dy) (.block 0 (.rangeFunc 243 (.var 10) #[18,19] QF QG))) (.seq (.ops WY) .ret)))))),[((.var 2),none),((.var 3),none)]⟩
theorem kA:AS Tryz.prog 248=some rE:=by kernel_rfl
theorem kB:AS Tryz.prog 253=some nm:=by kernel_rfl
theorem kC:AS Tryz.prog 254=some rF:=by kernel_rfl
theorem j9:AS Tryz.prog 247=some rD:=by kernel_rfl
theorem j7:AS Tryz.prog 242=some rB:=by kernel_rfl
theorem j8:AS Tryz.prog 243=some rC:=by kernel_rfl
end
end Go.Proofs.YtoaaclpjkelofaaGreatDoor.Am
set_option linter.unusedVariables false
set_option linter.unusedSimpArgs false
set_option maxRecDepth 12000
namespace Go.Proofs.YtoaaclpjkelofaaGreatDoor.Am
open Go Go.Proofs
noncomputable section
theorem VZ(k:IntKind):Bu k k=true:=by cases k<;>rfl
theorem C9(a:Option (Nat×Nat))(n:Nat)(cap:Option Nat):FT (.slice a n cap) (.slice a n cap)=true:=by
 cases a<;>cases cap<;>simp[FT]
theorem Xr(f:FuncId):FT (.func f [] []) (.func f [] [])=true:=by simp[FT,FT.eqAs]
theorem BK{s:AD}{loc var:List AV}{f:AD→AV→Option AV}{x ans:CX}(h:f s (Cc loc var x)=some (Cc loc var ans))(he:FT (Cc loc var ans) (Cc loc var ans)=true):GB s loc var ⟨none,.r1 f,[x],ans⟩=true:=by
 unfold GB
 show(!true || TX (f s (Cc loc var x)) (Cc loc var ans))=true
 rw[h]
 exact he
section
variable{E:Ck}{s:AD}
theorem X7(hE:Ak E){a:Option (Nat×Nat)}{ca:Option Nat}{b:Nat}{la:List Nat}(hc:Aj b s a (us la))(hs:BZ la){i:Nat}{K:AV→AD→Prop}(hK:K (AU (la.getD i 0)) s):
  WF E 253 [.slice a la.length ca,iv (i:Int)] K s:=by
 refine hE.go kB (by decide) rfl ?_
 rcases tL i la.length with h | h
 ·have hx:la[i]? = some la[i]:=tQ h
  rw[uy,hx]at hK
  generalize la[i]=x at hx hK
  obtain⟨pi,o,rfl,_,hload⟩:=hc i _ (DT hx)
  have dd:decide ((la.length:Int)≤(i:Int))=false:=decide_eq_false (by omega)
  have e1:=Aw (cap:=ca) (i:=pi) (o:=o) Tryz.underlying77 Bs h
  have e2:AG Tryz.prog s 185 (.ptr (some (pi,o+i * 1)))=some (BS x):=CK FP (by rw[tT];exact hload)
  have e3:=BU (s:=s) (hs x (tf hx))
  simp only[nm,Ui,Uj,eV,AW Tryz.underlying77,Wa,dd,e1,e2,e3,Qa,Qb,Qc,Qd,Qf,Qh,Qi,Qj,Qk,Ql,Qm,Qn,true_and,Qo,Qp,Qq,Qr,Qs,Qu,Qz,Ra,Rb,Rg,Ri,Rj,Rk,Rm,Yc,Wa]
  exact hK
 ·have dd:decide ((la.length:Int)≤(i:Int))=true:=decide_eq_true (by omega)
  rw[uy,tY h]at hK
  simp only[nm,Ui,Uj,eU,AW Tryz.underlying77,Wa,dd,Qa,Qb,Qc,Qd,Qf,Qh,Qi,Qj,Qk,Ql,Qm,Qn,true_and,Qo,Qp,Qq,Qr,Qs,Qu,Qy,Ra,Rb,Rg,Ri,Rj,Rk,Rm,Yc,Wa]
  exact hK
def V3(v:AV):AI:=R 77 0 false [v]
def qI:AI:=R 292 0 false [.func 253 [] []]
theorem TL(hE:Ak E){va vb:AV}(hca:va.cells=[va])(hcb:vb.cells=[vb]){K:AV→AD→Prop}
  (hK:∀s',s'.next=s.next+3→(∀j,j<s.next→s'.heap.get j=s.heap.get j)→s'.heap.get s.next=some (V3 va)→s'.heap.get (s.next+1)=some (V3 vb)→s'.heap.get (s.next+2)=some qI →
   K (.func 254 [] [.ptr (some (s.next,0)),.ptr (some (s.next+1,0)),.ptr (some (s.next+2,0))]) s'):WF E 248 [va,vb] K s:=by
 refine hE.go kA (by decide) rfl ?_
 have hz:At Tryz.prog 292=some (R 292 0 false [.nilFunc],.ptr):=by kernel_rfl
 have hsz:A1 Tryz.prog 292=some 1:=by kernel_rfl
 have n1:(newObj s (R 77 0 false [va])).next=s.next+1:=rfl
 have n2:(newObj (newObj s (R 77 0 false [va])) (R 77 0 false [vb])).next=s.next+2:=rfl
 have hg:(newObj (newObj (newObj s (R 77 0 false [va])) (R 77 0 false [vb])) (R 292 0 false [.nilFunc])).heap.get (s.next+2)=some (R 292 0 false [.nilFunc]):=by
  rw[AQ,if_pos n2.symm]
 have hst:=Cr (P:=Tryz.prog) (t:=292) (o:=0) (v:=.func 253 [] []) hsz hg (by simp) rfl
 simp only[uE]at hst
 simp only[rE,eR,eS,eT,Wz,hca,hcb,hz,Xb,n1,n2,hst,Xx,Xz,uz,uY,Qa,Qb,Qc,Qd,Qf,Qh,Qi,Qj,Qk,Ql,Qm,Qn,true_and,Qo,Qp,Qq,Qr,Qs,Qu,Ra,Rg,Ri,Rj,Rk,Rm,Yc]
 refine hK _ rfl (fun j hj=>?_) ?_ ?_ (Wv _ _ _)
 ·rw[Ww _ (by omega),AQ,if_neg (by rw[n2];omega),AQ,if_neg (by rw[n1];omega),AQ,if_neg (by omega)]
 ·rw[Ww _ (by omega),AQ,if_neg (by rw[n2];omega),AQ,if_neg (by rw[n1];omega),AQ,if_pos rfl];rfl
 ·rw[Ww _ (by omega),AQ,if_neg (by rw[n2];omega),AQ,if_pos n1.symm];rfl
structure PK(n0 p:Nat)(s0 s:AD):Prop where
 next:s0.next≤s.next
 low:∀j,j<n0→s.heap.get j=s0.heap.get j
 a:s.heap.get p=s0.heap.get p
 b:s.heap.get (p+1)=s0.heap.get (p+1)
 l:s.heap.get (p+2)=s0.heap.get (p+2)
theorem PK.refl(n0 p:Nat)(s:AD):PK n0 p s s:=⟨tJ _,fun _ _=>rfl,rfl,rfl,rfl⟩
theorem PK.trans{n0 p:Nat}{s0 s1 s2:AD}(h:PK n0 p s0 s1)(k:PK n0 p s1 s2):PK n0 p s0 s2:=
 ⟨tN h.next k.next,fun j hj=>(k.low j hj).trans (h.low j hj),k.a.trans h.a,k.b.trans h.b,k.l.trans h.l⟩
theorem PM(hE:Ak E){s0:AD}{n0 p l:Nat}{a b:Option (Nat×Nat)}{ca cb:Option Nat}{la lb:List Nat}(hla:la.length≤10000000000)(hlb:lb.length≤10000000000)(hsa:BZ la)(hsb:BZ lb)
  (hca:Aj n0 s0 a (us la)) (hcb:Aj n0 s0 b (us lb)) (h1:s0.heap.get p=some (V3 (.slice a la.length ca))) (h2:s0.heap.get (p+1)=some (V3 (.slice b lb.length cb))) (h3:s0.heap.get (p+2)=some qI)
  (LI:Nat→AD→Prop) (hLI:∀k s,LI k s→PK n0 p s0 s)
  (hround:∀ (k:Nat) (s:AD) (K:AV→AD→Prop),k<max la.length lb.length→LI k s→(∀s',LI (k+1) s'→K (.bool true) s')→WR E l [AU (la.getD k 0),AU (lb.getD k 0)] K s)
  {K:AV→AD→Prop} (h0:LI 0 s) (hend:∀v s',LI (max la.length lb.length) s'→K v s'):
  WF E 254 [.yield l,.ptr (some (p,0)),.ptr (some (p+1,0)),.ptr (some (p+2,0))] K s:=by
 have hag:Ek Tryz.prog 292=some false:=by kernel_rfl
 have lda:∀ {s':AD},PK n0 p s0 s'→AG Tryz.prog s' 77 (.ptr (some (p,0)))=some (.slice a la.length ca):=fun h=>Af E7 (h.a.trans h1) rfl
 have ldb:∀ {s':AD},PK n0 p s0 s'→AG Tryz.prog s' 77 (.ptr (some (p+1,0)))=some (.slice b lb.length cb):=fun h=>Af E7 (h.b.trans h2) rfl
 have ldl:∀ {s':AD},PK n0 p s0 s'→AG Tryz.prog s' 292 (.ptr (some (p+2,0)))=some (.func 253 [] []):=fun h=>Af hag (h.l.trans h3) rfl
 have hmm:GT true (iv (la.length:Int)) [iv (lb.length:Int)]=some (iv ((max la.length lb.length:Nat):Int)):=by
  simp only[GT,VZ,AF,cond_true]
  congr 2
  cases hlt:O9 (la.length:Int) (lb.length:Int)with
  | true=>rw[Cv]at hlt;have:=of_decide_eq_true hlt;simp only[cond_true];omega
  | false=>rw[Cv]at hlt;have:=of_decide_eq_false hlt;simp only[cond_false];omega
 refine hE.go kC (by decide) rfl ?_
 simp only[rF,eW,lda (hLI 0 s h0),ldb (hLI 0 s h0),AW Tryz.underlying77,hmm,Qa,Qb,Qc,Qd,Qf,Qh,Qi,Qj,Qk,Ql,Qm,Qn,true_and,Qo,Qp,Qq,Qr,Qs,Qu,Ra]
 generalize hM:max la.length lb.length=M at *
 have hMle:M≤10000000000:=by omega
 have key:∀ (m k:Nat) (S:AD) (x4 x7 x8:AV),k+m=M→LI k S→WC E none (.loop Md) (fun r=>(r.exit=.exit 0∧r.marks=[]∧LI M r.st)) [.yield l,.ptr (some (p,0)),.ptr (some (p+1,0)),.ptr (some (p+2,0)),x4,iv (M:Int),iv (k:Int),x7,x8] [] S:=by
  intro m
  induction m with
  | zero =>
   intro k S x4 x7 x8 hk hS
   have e:k=M:=by omega
   subst e
   have dd:decide ((k:Int)<(k:Int))=false:=decide_eq_false (by omega)
   refine WC.loop' ?_
   simp only[Md,Uk,Rx,dd,Qa,Qb,Qc,Qd,Qf,Qh,Qj,Qm,Qn,true_and,Qo,Qp,Qq,Qr,Qs,Qu,Qz,Ra,Rb,Rc,Rd,Re,Rx]
   exact hS
  | succ m ih =>
   intro k S x4 x7 x8 hk hS
   have dd:decide ((k:Int)<(M:Int))=true:=decide_eq_true (by omega)
   have pk:=hLI k S hS
   have l1:=lda pk
   have l2:=ldb pk
   have l3:=ldl pk
   have e17:=Bz Tryz.prog 3 (k:Int) 1 ⟨by omega,by omega⟩
   have e17':((k:Int)+1)=((k+1:Nat):Int):=by omega
   refine WC.loop' ?_
   generalize hW:WC E none (Aa.loop Md) _=WW
   simp only[Md,Uk,eX,eY,Rx,dd,l1,l2,l3,Qa,Qb,Qc,Qd,Qe,Qf,Qh,Qj,Qk,Qm,Qn,true_and,Qo,Qp,Qq,Qr,Qs,Qu,Qy,Ra,Rb,Rc,Rd,Re,Rx]
   have ca':Aj n0 S a (us la):=hca.old ⟨pk.next,pk.low⟩ (tJ _)
   have cb':Aj n0 S b (us lb):=hcb.old ⟨pk.next,pk.low⟩ (tJ _)
   refine X7 hE ca' hsa ?_
   refine⟨⟨BK (by simp only[Qj,Qk,Qq,Qr];exact l2) (C9 _ _ _),BK (by simp only[Qj,Qk,Qq,Qr];exact l3) (Xr _),trivial⟩,?_⟩
   simp only[Qq,Qr]
   refine X7 hE cb' hsb ?_
   simp only[Qd,Qn,true_and,Qq,Qr]
   refine hround k S _ (by omega) hS fun s' hs'=>?_
   simp only[eZ,Wd,Bool.not_true,e17,e17',Qb,Qc,Qd,Qf,Qh,Qi,Qj,Qk,Qm,Qn,true_and,Qo,Qp,Qq,Qr,Qs,Qu,Qz,Ya,Wd]
   rw[← hW]
   exact ih (k+1) s' _ _ _ (by omega) hs'
 refine(key M 0 s _ _ _ (by omega) h0).mono ?_
 rintro⟨e,v,m,s'⟩ ⟨q1,q0,q2⟩
 simp only at q1 q0 q2
 subst q0
 subst q1
 simp only[if_true,Qm,Rf,Rh,Ri,Rj,Rn]
 exact hend _ _ q2
end
end
end Go.Proofs.YtoaaclpjkelofaaGreatDoor.Am
set_option linter.unusedVariables false
set_option linter.unusedSimpArgs false
set_option maxRecDepth 16000
namespace Go.Proofs.YtoaaclpjkelofaaGreatDoor.Am
open Go Go.Proofs
noncomputable section
theorem Nb{a b:List Nat}{k:Nat}(h:k<max a.length b.length):(Bf a b)[k]? = some (a.getD k 0,b.getD k 0):=by
 unfold Bf
 rw[uG,List.getElem?_range h];rfl
theorem Nc(a b:List Nat):(Bf a b).length=max a.length b.length:=by simp[Bf]
theorem HO{a:List Nat}(h:BZ a)(k:Nat):a.getD k 0<4294967296:=by
 rw[uy]
 rcases tL k a.length with h' | h'
 ·rw[tQ h'];exact h _ (List.getElem_mem h')
 ·rw[tY h'];exact(by decide)
theorem ZG{a b:List Nat}(ha:BZ a)(hb:BZ b):∀p∈Bf a b,p.1<LB∧p.2<LB:=fun p hp=>by
 unfold Bf at hp
 obtain⟨i,_,rfl⟩:=List.mem_map.1 hp
 exact⟨HO ha i,HO hb i⟩
def NJ (v0 v1 v2 x5 x6 x7 x8 x9 x10:AV) (n0:Nat) (x12 x13:AV):FO:=
 MB 247 [v0,v1,v2,.ptr (some (n0,0)),.ptr (some (n0+1,0)),x5,x6,x7,x8,x9,x10,.func 254 [] [.ptr (some (n0+2,0)),.ptr (some (n0+2+1,0)),.ptr (some (n0+2+2,0))],x12,x13] #[18,19] QJ QK (n0+5)
structure nf(n0:Nat)(s0:AD)(lo:FO)(P:List (Nat×Nat))(T:List Nat×Nat)(k:Nat)(s:AD):Prop where
 pk:PK n0 (n0+2) s0 s
 lt:n0+7≤s.next
 lp:Bc s (n0+6)=some lo
 mrk:s.heap.get (n0+5)=some .mark
 ex:∃vo d O c,s.heap.get n0=some (R 77 0 false [vo])∧s.heap.get (n0+1)=some (R 187 0 false [AU c])∧Cg 185 s vo d.length 1 (us d) O∧(∀j∈O,n0+7≤j)∧(∀j,Ci vo=some j→n0+7≤j)∧d.length=k∧c≤1∧(d++(EI (P.drop k) c).1,(EI (P.drop k) c).2)=T
section
variable{E:Ck}{s:AD}
theorem Zb(hE:Ak E){n0:Nat}{s0:AD}{v0 v1 v2 x5 x6 x7 x8 x9 x10 x12 x13:AV}{P:List (Nat×Nat)}(hPl:P.length≤10000000000){T:List Nat×Nat}{k x y:Nat}(hP:P[k]? = some (x,y))(hx:x<4294967296)(hy:y<4294967296)
    (hI:nf n0 s0 (NJ v0 v1 v2 x5 x6 x7 x8 x9 x10 n0 x12 x13) P T k s) {K:AV→AD→Prop} (hK:∀s',nf n0 s0 (NJ v0 v1 v2 x5 x6 x7 x8 x9 x10 n0 x12 x13) P T (k+1) s'→K (.bool true) s'):
    WR E (n0+6) [AU x,AU y] K s:=by
  obtain⟨pk,hlt,hlp,hmk,vo,d,O,c,g1,g2,hD,hO,hsl,hdl,hc,hT⟩:=hI
  have hz:EA (Ec E.P 247) (NJ v0 v1 v2 x5 x6 x7 x8 x9 x10 n0 x12 x13).var [18,19] [AU x,AU y]=some [v0,v1,v2,.ptr (some (n0,0)),.ptr (some (n0+1,0)),x5,x6,x7,x8,x9,x10,.func 254 [] [.ptr (some (n0+2,0)),.ptr (some (n0+2+1,0)),.ptr (some (n0+2+2,0))],AU x,AU y]:=by
    rw[hE.P,Uh];rfl
  refine WR.round hlp hz (by rw[hE.P];exact eF) (by rw[hE.P];exact eG) ?_
  refine Hg ?_
  simp only[SR,eN,eO,Qa,Qb,Qc,Qd,Qf,Qh,Qj,Qm,Qn,true_and,Qo,Qp,Qq,Qr,Qs,Qu,Ra]
  refine⟨_,hlp,rfl,Hg ?_⟩
  generalize hs1:setObj s (n0+6) _=s1
  have n1:s1.next=s.next:=by rw[← hs1];rfl
  have f1:∀j,j≠n0+6→s1.heap.get j=s.heap.get j:=fun j hj=>by rw[← hs1,Ww _ hj]
  have l1:Bc s1 (n0+6)=some { NJ v0 v1 v2 x5 x6 x7 x8 x9 x10 n0 x12 x13 with state:=.busy }:=by rw[← hs1,GS]
  have g1':=(f1 n0 (by omega)).trans g1
  have g2':=(f1 (n0+1) (by omega)).trans g2
  have hD1:Cg 185 s1 vo d.length 1 (us d) O:=hD.frame (tu n1.symm) (fun j hj=>f1 j (by have:=hsl j hj;omega))
  have hdk:P.drop k=(x,y)::P.drop (k+1):=by
    have hk:k<P.length:=(List.getElem?_eq_some_iff.1 hP).1
    rw[t8 hk]
    rw[tQ hk]at hP
    rw[Option.some.inj hP]
  have hkP:k<P.length:=(List.getElem?_eq_some_iff.1 hP).1
  rw[hdk]at hT
  simp only[EI]at hT
  have hLB:LB=4294967296:=rfl
  rw[hLB,show x+y+c=c+(x+y) by omega]at hT
  have e1:=HG Tryz.prog 187 (a:=x) (b:=y) (by omega)
  have e2:=HG Tryz.prog 187 (a:=c) (b:=x+y) (by omega)
  generalize hc1:c+(x+y)=c1 at hT e2
  have hc1b:c1<18446744073709551616:=by omega
  have e3:=Ll Tryz.prog 187 hc1b
  have e11:c1 % 4294967296 % 4294967296=c1 % 4294967296:=uj _ _
  have e15:AP Tryz.prog .shr 187 (AU c1) (.int .u64 32)=some (AU (c1 / 4294967296)):=J8 Tryz.prog 187 (k:=.u64) (n:=32) (by decide)
  have hcq:c1 / 4294967296≤1:=by omega
  generalize hz:c1 % 4294967296=z at hT e3 e11
  have ld2:AG Tryz.prog s1 187 (.ptr (some (n0+1,0)))=some (AU c):=Af SE g2' rfl
  have st2:=Cr (P:=Tryz.prog) (t:=187) (o:=0) (v:=AU c1) Tr g2' (by simp) rfl
  simp only[uE]at st2
  generalize hs2:setObj s1 (n0+1) (R 187 0 false [AU c1])=s2 at st2
  have n2:s2.next=s1.next:=by rw[← hs2];rfl
  have f2:∀j,j≠n0+1→s2.heap.get j=s1.heap.get j:=fun j hj=>by rw[← hs2,Ww _ hj]
  have g22:s2.heap.get (n0+1)=some (R 187 0 false [AU c1]):=by rw[← hs2,Wv]
  have ld22:AG Tryz.prog s2 187 (.ptr (some (n0+1,0)))=some (AU c1):=Af SE g22 rfl
  have g12:=(f2 n0 (by omega)).trans g1'
  have ld12:AG Tryz.prog s2 77 (.ptr (some (n0,0)))=some vo:=Af E7 g12 rfl
  have hD2:Cg 185 s2 vo d.length 1 (us d) O:=hD1.frame (tu n2.symm) (fun j hj=>f2 j (by have:=hsl j hj;omega))
  obtain⟨v',s3,O',happ,hD3,hn3,f3,hO3,hsl3⟩:=Js hD2 z (by omega)
  have happ':Ay Tryz.prog (newObj s2 (R 185 1 false [.int .u32 z])) [77,77] [vo,.slice (some (s2.next,0)) 1 (some 1)]=some (v',s3):=happ
  have g13:s3.heap.get n0=some (R 77 0 false [vo]):=(f3 n0 (by omega) (fun h=>by have:=hO n0 h;omega)).trans g12
  have g23:s3.heap.get (n0+1)=some (R 187 0 false [AU c1]):=(f3 (n0+1) (by omega) (fun h=>by have:=hO _ h;omega)).trans g22
  have hv'c:v'.isCell=true:=by obtain⟨a,cap,rfl,_⟩:=hD3.cells;rfl
  have st3:=Cr (P:=Tryz.prog) (t:=77) (o:=0) (v:=v') px g13 (by simp) hv'c
  simp only[uE]at st3
  generalize hs4:setObj s3 n0 (R 77 0 false [v'])=s4 at st3
  have n4:s4.next=s3.next:=by rw[← hs4];rfl
  have f4:∀j,j≠n0→s4.heap.get j=s3.heap.get j:=fun j hj=>by rw[← hs4,Ww _ hj]
  have g24:=(f4 (n0+1) (by omega)).trans g23
  have ld24:AG Tryz.prog s4 187 (.ptr (some (n0+1,0)))=some (AU c1):=Af SE g24 rfl
  have st4:=Cr (P:=Tryz.prog) (t:=187) (o:=0) (v:=AU (c1 / 4294967296)) Tr g24 (by simp) rfl
  simp only[uE]at st4
  generalize hs5:setObj s4 (n0+1) (R 187 0 false [AU (c1 / 4294967296)])=s5 at st4
  have n5:s5.next=s4.next:=by rw[← hs5];rfl
  have f5:∀j,j≠n0+1→s5.heap.get j=s4.heap.get j:=fun j hj=>by rw[← hs5,Ww _ hj]
  have fall:∀j,j<s.next→j ∉ O→j≠n0→j≠n0+1→s5.heap.get j=s1.heap.get j:=fun j hj h1 h2 h3=>by
    rw[f5 j h3,f4 j h2,f3 j (by omega) h1,f2 j h3]
  have l5:Bc s5 (n0+6)=some { NJ v0 v1 v2 x5 x6 x7 x8 x9 x10 n0 x12 x13 with state:=.busy }:=by
    rw[O8 (fall (n0+6) (by omega) (fun h=>by have:=hO _ h;omega) (by omega) (by omega))];exact l1
  simp only[SS,eP,WZ,Wc,e1,e2,ld2,st2,ld12,ld22,e3,Bj,e11,GZ,Xd,happ',st3,ld24,e15,st4,Xx,Xz,Qa,Qb,Qc,Qd,Qf,Qh,Qi,Qj,Qk,Qm,Qn,true_and,Qq,Qr,Qs,Qu,Ra,Rd,Yc]
  refine⟨_,l5,hK _ ?_⟩
  have fl:∀j,j≠n0+6→∀r,(setObj s5 (n0+6) r).heap.get j=s5.heap.get j:=fun j hj r=>Ww _ hj
  have hlow:∀j,j<n0+6→j≠n0→j≠n0+1→∀r,(setObj s5 (n0+6) r).heap.get j=s.heap.get j:=fun j h1 h2 h3 r=>by
    rw[fl j (by omega),fall j (by omega) (fun h=>by have:=hO _ h;omega) h2 h3,f1 j (by omega)]
  refine⟨pk.trans ⟨?_,fun j hj=>hlow j (by omega) (by omega) (by omega) _,hlow _ (by omega) (by omega) (by omega) _,hlow _ (by omega) (by omega) (by omega) _,hlow _ (by omega) (by omega) (by omega) _⟩,?_,?_,?_,v',d++[z],O',c1 / 4294967296,?_,?_,?_,fun j hj=>?_,fun j hj=>?_,?_,hcq,?_⟩
  · show s.next≤s5.next;omega
  · show n0+7≤s5.next;omega
  · rw[GS];rfl
  · rw[hlow _ (by omega) (by omega) (by omega)];exact hmk
  · rw[fl n0 (by omega),f5 n0 (by omega),← hs4,Wv]
  · rw[fl (n0+1) (by omega),← hs5,Wv]
  · refine hD3.frame (by show s3.next≤s5.next;omega) (fun j hj=>?_)
    have hj7:n0+7≤j:=by
      rcases hsl3 j hj with h | h
      · exact hsl j h
      · omega
    rw[fl j (by omega),f5 j (by omega),f4 j (by omega)]
  · rcases hO3 j hj with h | h
    · exact hO j h
    · omega
  · rcases hsl3 j hj with h | h
    · exact hsl j h
    · omega
  · rw[tX,hdl];rfl
  · rw[tg];exact hT
end
theorem NR.keep{b:Nat}{s s':AD}{v:AV}{l:List Nat}(h:NR b s v l)(hn:s.next≤s'.next)(hf:∀j,Ci v=some j→s'.heap.get j=s.heap.get j):NR b s' v l:=by
 obtain⟨O,h1,h2,h3,h4⟩:=h
 exact⟨O,h1.frame hn hf,h2,h3,fun hne=>by obtain⟨i,q1,q2,q3⟩:=h4 hne;exact⟨i,q1,tO q2 hn,q3.keep (hf i (by rw[q1];rfl))⟩⟩
theorem Kq:∀ (M:List Nat)(s:AD),M.Nodup→(∀m∈M,s.heap.get m=some .mark)→∃s',DS s M=some s'∧s'.next=s.next∧∀j,j ∉ M→s'.heap.get j=s.heap.get j
 | [],s,_,_=>⟨s,rfl,rfl,fun _ _=>rfl⟩
 | m::M,s,hn,hm=>by
  obtain⟨n1,n2⟩:=uS.1 hn
  obtain⟨s',h1,h2,h3⟩:=Kq M (Bx s m) n2 (fun x hx=>by
   rw[Ja,if_neg (fun(e:x=m)=>n1 (e▸hx))];exact hm x (tW _ hx))
  refine⟨s',?_,h2,fun j hj=>?_⟩
  ·show(match s.heap.get m with | some .mark=>DS (Bx s m) M | _=>none)=_
   rw[hm m tS]
   exact h1
  ·rw[h3 j (fun h=>hj (tW _ h)),Ja,if_neg (fun(e:j=m)=>hj (e▸tS))]
structure Oc(s:AD)(ri:Nat)(vs:List AV)(L:List (List Nat)):Prop where
 row:s.heap.get ri=some (R 77 1 false vs)
 len:vs.length=L.length
 rd:∀ (j:Nat) (v:AV) (l:List Nat),vs[j]? = some v→L[j]? = some l→Cl s v l
theorem Oc.old{s s':AD}{ri:Nat}{vs:List AV}{L:List (List Nat)}(h:Oc s ri vs L)(k:A9 s.next s s')(hi:ri<s.next):Oc s' ri vs L:=
 ⟨(k.2 ri hi).trans h.row,h.len,fun j v l h1 h2=>(h.rd j v l h1 h2).old k⟩
def HE:List (List Nat)→Nat
 | []=>0
 | l::L=>AC l+HE L
section
variable{E:Ck}{s:AD}
theorem iY       (hE : Ak    E) {sA : AD}  {ri : Nat} {vs : List AV} {L : List (List Nat)} (hri : ri < sA.next) (hLl : L.length ≤ 1000) (hsm : ∀ l ∈ L, BZ  l ∧ l.length ≤ 1000000000) {tot : Nat} {Q : Ax   → Prop} (x0 : AV)
    (hq:∀ (S:AD) (vD:AV) (D M:List Nat) (y2 y3 y4 y5 y6 y9 y10 y11 y12 y13:AV),A9 sA.next sA S→Cl S vD D→BZ D→D.length≤2000000000→AC D=tot→M.Nodup→(∀m∈M,sA.next≤m∧m<S.next∧S.heap.get m=some .mark) →
      Q ⟨.exit 0,[x0,vD,y2,y3,y4,y5,y6,.slice (some (ri,0)) L.length (some L.length),iv (L.length:Int),y9,y10,y11,y12,y13],M,S⟩):
    ∀ (r:List (List Nat)) (i:Nat) (S:AD) (vD:AV) (D M:List Nat) (x2 x3 x4 x5 x6 x10 x11 x12 x13:AV),L.drop i=r→i≤L.length→A9 sA.next sA S→Oc S ri vs L→Cl S vD D→BZ D→D.length≤1000000000+i→AC D+HE r=tot→M.Nodup→(∀m∈M,sA.next≤m∧m<S.next∧S.heap.get m=some .mark) →
      WC E none (.loop Iz) Q [x0,vD,x2,x3,x4,x5,x6,.slice (some (ri,0)) L.length (some L.length),iv (L.length:Int),iv (i:Int),x10,x11,x12,x13] M S:=by
  intro r
  induction r with
  | nil =>
    intro i S vD D M x2 x3 x4 x5 x6 x10 x11 x12 x13 hd hi ho hR hN hs hl hv hM hm
    have e:i=L.length:=by
      have:=congrArg List.length hd
      simp at this
      omega
    subst e
    have dd:decide ((L.length:Int)<(L.length:Int))=false:=decide_eq_false (by omega)
    refine WC.loop' ?_
    simp only[Iz,Ug,Rx,dd,Qa,Qb,Qc,Qd,Qf,Qh,Qj,Qm,Qn,true_and,Qo,Qp,Qq,Qr,Qs,Qu,Qz,Ra,Rc,Rd,Rx]
    exact hq S vD D M _ _ _ _ _ _ _ _ _ _ ho hN hs (by omega) (by simpa[HE]using hv) hM hm
  | cons A r ih =>
    intro i S vD D M x2 x3 x4 x5 x6 x10 x11 x12 x13 hd hi ho hR hN hs hl hv hM hm
    have hlt:i<L.length:=by
      rcases tL i L.length with h' | h'
      · exact h'
      · rw[uK h']at hd;cases hd
    have hA:L[i]? = some A:=by
      have:=congrArg (fun l=>l[0]?) hd
      simpa using this
    have hd':L.drop (i+1)=r:=by
      have:=congrArg (List.drop 1) hd
      simpa[uM]using this
    obtain⟨hAs,hAl⟩:=hsm A (tf hA)
    have hva:vs[i]? = some (vs[i]'(by rw[hR.len];exact hlt)):=tQ _
    generalize vs[i]'(by rw[hR.len];exact hlt)=va at hva
    have hNa:=hR.rd i va A hva hA
    have dd:decide ((i:Int)<(L.length:Int))=true:=decide_eq_true (by omega)
    have e1:=Aw (cap:=some L.length) (i:=ri) (o:=0) Tryz.underlying291 px hlt
    rw[tR,tT]at e1
    have e2:AG Tryz.prog S 77 (.ptr (some (ri,i)))=some va:=Af E7 hR.row hva
    generalize hn0:S.next=n0 at *
    have za:At Tryz.prog 77=some (R 77 0 false [.slice none 0 (some 0)],.ptr):=by kernel_rfl
    have zc:At Tryz.prog 187=some (R 187 0 false [.int .u64 0],.ptr):=by kernel_rfl
    generalize hS1:newObj S (R 77 0 false [.slice none 0 (some 0)])=S1
    have n1:S1.next=n0+1:=by rw[← hS1,← hn0];rfl
    have o1:∀j,j<n0→S1.heap.get j=S.heap.get j:=fun j hj=>by rw[← hS1,AQ,if_neg (by omega)]
    have g1:S1.heap.get n0=some (R 77 0 false [.slice none 0 (some 0)]):=by rw[← hS1,AQ,if_pos hn0.symm]
    generalize hS2:newObj S1 (R 187 0 false [.int .u64 0])=S2
    have n2:S2.next=n0+2:=by rw[← hS2];show S1.next+1=_;omega
    have g2:S2.heap.get (n0+1)=some (R 187 0 false [.int .u64 0]):=by rw[← hS2,AQ,if_pos n1.symm]
    have o2:∀j,j<n0+1→S2.heap.get j=S1.heap.get j:=fun j hj=>by rw[← hS2,AQ,if_neg (by omega)]
    have st:=Cr (P:=Tryz.prog) (t:=187) (o:=0) (v:=.int .u64 0) Tr g2 (by simp) rfl
    simp only[uE]at st
    generalize hS3:setObj S2 (n0+1) (R 187 0 false [.int .u64 0])=S3 at st
    have n3:S3.next=n0+2:=by rw[← hS3];exact n2
    have g3:S3.heap.get (n0+1)=some (R 187 0 false [AU 0]):=by rw[← hS3,Wv];rfl
    have o3:∀j,j<n0+1→S3.heap.get j=S1.heap.get j:=fun j hj=>by rw[← hS3,Ww _ (by omega),o2 j hj]
    have o03:A9 n0 S S3:=⟨by omega,fun j hj=>by rw[o3 j (by omega),o1 j hj]⟩
    obtain⟨aD,cD,eD,hcapD,hcD⟩:=hN
    obtain⟨aA,cA,eA,hcapA,hcA⟩:=hNa
    refine WC.loop' ?_
    generalize hW:WC E none (Aa.loop Iz) Q=WW
    simp only[Iz,Ug,eJ,eK,eL,eM,Rx,dd,e1,e2,za,zc,Xb,hn0,hS1,n1,hS2,st,Xx,Xz,Qa,Qb,Qc,Qd,Qf,Qh,Qi,Qj,Qk,Qm,Qn,true_and,Qo,Qp,Qq,Qr,Qs,Qu,Qy,Ra,Rc,Rd,Rx]
    refine TL hE (by rw[eD];rfl) (by rw[eA];rfl) fun S4 n4 f4 b1 b2 b3=>?_
    rw[n3]at n4 f4 b1 b2 b3 ⊢
    subst eD;subst eA
    simp only[Qd,Qn,true_and,Qo,Qp]
    refine WC.range rfl ?_
    rw[show S4.next=n0+5 by omega]
    show WF E 254 [.yield (n0+6),.ptr (some (n0+2,0)),.ptr (some (n0+2+1,0)),.ptr (some (n0+2+2,0))] _ (newObj (newObj S4 .mark) (.loop (NJ _ _ _ _ _ _ _ _ _ n0 _ _)))
    generalize hlo:NJ _ _ _ _ _ _ _ _ _ n0 _ _=lo
    have hm1:(newObj S4 .mark).next=n0+6:=by show S4.next+1=_;omega
    generalize hs0:newObj (newObj S4 .mark) (.loop lo)=s0
    have n0':s0.next=n0+7:=by rw[← hs0];show S4.next+1+1=_;omega
    have f0:∀j,j<n0+5→s0.heap.get j=S4.heap.get j:=fun j hj=>by rw[← hs0,AQ,if_neg (by omega),AQ,if_neg (by omega)]
    have hmk0:s0.heap.get (n0+5)=some .mark:=by rw[← hs0,AQ,if_neg (by omega),AQ,if_pos (by omega)]
    have hlp0:Bc s0 (n0+6)=some lo:=by
      unfold Bc
      rw[← hs0,AQ,if_pos hm1.symm]
    have o0:A9 n0 S s0:=⟨by omega,fun j hj=>by rw[f0 j (by omega),f4 j (by omega),o3 j (by omega),o1 j hj]⟩
    have hPl:=Nc D A
    have hPv:=MO (Bf D A) 0
    rw[YP,YR]at hPv
    have hPs:=F9 (Bf D A) 0
    have hPn:=Ip (Bf D A) 0
    refine PM hE (s0:=s0) (n0:=n0) (p:=n0+2) (l:=n0+6) (la:=D) (lb:=A) (ca:=cD) (cb:=cA) (a:=aD) (b:=aA) (by omega) (by omega) hs hAs ((hcD.old o0 (tu hn0)).mono (tu hn0)) ((hcA.old o0 (tu hn0)).mono (tu hn0)) ((f0 _ (by omega)).trans b1) ((f0 _ (by omega)).trans b2) ((f0 _ (by omega)).trans b3)
      (nf n0 s0 lo (Bf D A) (EI (Bf D A) 0)) (fun k s h=>h.pk) (fun k s K hk hI hK=>by
        subst hlo
        exact Zb hE (by rw[hPl];omega) (Nb hk) (HO hs k) (HO hAs k) hI hK)
      ⟨PK.refl _ _ _,by omega,hlp0,hmk0,_,[],[],0,?_,?_,Cg.nil s0 1,fun j hj=>(by cases hj),fun j hj=>(by cases hj),rfl,by omega,rfl⟩ (fun v s' hI=>?_)
    · rw[f0 n0 (by omega),f4 n0 (by omega),o3 n0 (by omega)];exact g1
    · rw[f0 (n0+1) (by omega),f4 (n0+1) (by omega)];exact g3
    obtain⟨pk,hlt',hlp,hmk,vo,d,O,c,k1,k2,hD,hO,hsl,hdl,hc,hT⟩:=hI
    rw[uK (by rw[hPl];omega)]at hT
    simp only[EI,ud]at hT
    rw[← hT]at hPv hPs hPn
    simp only at hPv hPs hPn
    refine⟨lo,hlp,by rw[← hlo];rfl,?_⟩
    have hpd:lo.pending=none:=by rw[← hlo];rfl
    rw[hpd]
    generalize hs6:setObj s' (n0+5+1) _=s6
    have n6:s6.next=s'.next:=by rw[← hs6];rfl
    have f6:∀j,j≠n0+6→s6.heap.get j=s'.heap.get j:=fun j hj=>by rw[← hs6,Ww _ (by omega)]
    have hD6:Cg 185 s6 vo d.length 1 (us d) O:=hD.frame (tu n6.symm) (fun j hj=>f6 j (by have:=hsl j hj;omega))
    have ld1:AG Tryz.prog s6 77 (.ptr (some (n0,0)))=some vo:=Af E7 ((f6 n0 (by omega)).trans k1) rfl
    have ld2:AG Tryz.prog s6 187 (.ptr (some (n0+1,0)))=some (AU c):=Af SE ((f6 (n0+1) (by omega)).trans k2) rfl
    have ec:c % 4294967296=c:=by omega
    obtain⟨v',s7,O',happ,hD7,hn7,f7,hO7,hsl7⟩:=Js hD6 c (by rw[hdl];omega)
    have happ':Ay Tryz.prog (newObj s6 (R 185 1 false [.int .u32 c])) [77,77] [vo,.slice (some (s6.next,0)) 1 (some 1)]=some (v',s7):=happ
    have e17:=Bz Tryz.prog 3 (i:Int) 1 ⟨by omega,by omega⟩
    have e17':((i:Int)+1)=((i+1:Nat):Int):=by omega
    simp only[SA,Wi,Ws,ld1,ld2,Bj,ec,GZ,Xd,happ',e17,e17',Qb,Qc,Qd,Qf,Qh,Qi,Qj,Qk,Qm,Qn,true_and,Qo,Qp,Qq,Qr,Qs,Qu,Ra,Rd,Yc]
    rw[← hW]
    have hlow:∀j,j<n0+6→j≠n0→j≠n0+1→(j<n0∨j=n0+5)→s7.heap.get j=s'.heap.get j:=fun j h1 h2 h3 h4=>by
      rw[f7 j (by omega) (fun h=>by have:=hO j h;omega),f6 j (by omega)]
    have oS:A9 n0 S s7:=⟨by omega,fun j hj=>by rw[hlow j (by omega) (by omega) (by omega) (.inl hj),pk.low j hj,o0.2 j hj]⟩
    have ho1:=ho.1
    have oS':A9 S.next S s7:=by rw[hn0];exact oS
    refine ih (i+1) s7 v' (d++[c]) ((n0+5)::M) _ _ _ _ _ _ _ _ _ hd' hlt (ho.trans (oS.mono (by omega))) (hR.old oS' (by omega)) (Cg.n32 hD7) ?_ ?_ ?_ ?_ ?_
    · exact hPs.append (fun x hx=>by rw[ul.1 hx];exact uH hc (by decide))
    · rw[tX,hdl]
      show _+1≤_
      omega
    · rw[BE]
      have e3:AC [c]=c:=by simp[AC]
      have hlen:d.length=(Bf D A).length:=by rw[hdl,hPl]
      rw[e3,hlen,hPv,← hv]
      show _=AC D+(AC A+HE r)
      omega
    · exact uS.2 ⟨fun h=>by have:=(hm _ h).2.1;omega,hM⟩
    · intro m hmm
      rcases uT.1 hmm with rfl | h
      · exact⟨by omega,by omega,(hlow _ (by omega) (by omega) (by omega) (.inr rfl)).trans hmk⟩
      · obtain⟨q1,q2,q3⟩:=hm m h
        exact⟨q1,by omega,(oS.2 m q2).trans q3⟩
end
section
variable{E:Ck}{s:AD}
theorem pq(hE:Ak E){ri:Nat}{vs:List AV}{L:List (List Nat)}(hri:ri<s.next)(hR:Oc s ri vs L)(hLl:L.length≤1000)(hsm:∀l∈L,BZ l∧l.length≤1000000000){K:AV→AD→Prop}
  (hK:∀s' v,A9 s.next s s'→NR s.next s' v (AK (HE L))→K v s'):WF E 247 [.slice (some (ri,0)) L.length (some L.length)] K s:=by
 refine hE.go j9 (by decide) rfl ?_
 simp only[rD,eH,eI,AW Tryz.underlying291,Qa,Qb,Qc,Qd,Qf,Qh,Qi,Qj,Ql,Qm,Qn,true_and,Qo,Qp,Qq,Qr,Qs,Qu,Ra,Rg,Rj,Rk,Rm,Yc]
 refine iY hE hri hLl hsm _ (tot:=HE L) (fun S vD D M y2 y3 y4 y5 y6 y9 y10 y11 y12 y13 ho hN hs hl hv hM hm=>?_) L 0 s _ [] [] _ _ _ _ _ _ _ _ _ rfl (tV _) (A9.refl _ _) hR (NR.n32 (NR.nil 0 s)) (fun x hx=>by cases hx) (tV _) (by simp[AC]) List.nodup_nil (fun m hm=>by cases hm)
 simp only[W0,if_true,Qb,Qc,Qd,Qf,Qh,Qj,Qk,Qm,Qn,true_and,Qq,Qr,Qs,Qu,Ra,Rc,Rf]
 refine CA hE hN (by omega) fun s2 v2 o2 r2=>?_
 rw[BN hs,hv]at r2
 obtain⟨s3,u1,u2,u3⟩:=Kq M s2 hM (fun m h=>by rw[o2.2 m (hm m h).2.1];exact(hm m h).2.2)
 simp only[u1,Qd,Qm,Qn,true_and,Qo,Qp,Qq,Qr]
 have h1:=ho.1
 have h2:=o2.1
 refine hK s3 v2 ⟨by omega,fun j hj=>?_⟩ ((r2.keep (by omega) (fun j hj=>u3 j (fun h=>?_))).mono h1)
 ·rw[u3 j (fun h=>by have:=(hm j h).1;omega),o2.2 j (by omega),ho.2 j hj]
 ·obtain⟨O,_,_,q,_⟩:=r2
  have:=q j hj
  have:=(hm j h).2.1
  omega
theorem iK(a b:Option (Nat×Nat))(ca cb:Option Nat)(n m:Nat):An Tryz.prog 291 2 (zipIdx [0,1] [.slice a n ca,.slice b m cb])=some (R 77 1 false [.slice a n ca,.slice b m cb]):=by kernel_rfl
theorem ng(hE:Ak E){va vb:AV}{la lb:List Nat}(ha:Cl s va la)(hb:Cl s vb lb)(hla:la.length≤1000000000)(hlb:lb.length≤1000000000)(hsa:BZ la)(hsb:BZ lb){K:AV→AD→Prop}
    (hK:∀s' v,A9 s.next s s'→NR s.next s' v (AK (AC la+AC lb))→K v s'):WF E 242 [va,vb] K s:=by
  refine hE.go j7 (by decide) rfl ?_
  have hrow:An Tryz.prog 291 2 (zipIdx [0,1] [va,vb])=some (R 77 1 false [va,vb]):=by
    obtain⟨a,ca,rfl,_⟩:=ha
    obtain⟨b,cb,rfl,_⟩:=hb
    exact iK _ _ _ _ _ _
  have ho:=A9.new s (R 77 1 false [va,vb])
  simp only[rB,dj,dk,hrow,Xd,Qa,Qb,Qc,Qd,Qf,Qh,Qi,Qj,Qk,Ql,Qm,Qn,true_and,Qo,Qp,Qq,Qr,Qs,Qu,Ra,Rg,Ri,Rj,Rk,Rm,Yc]
  have hR:Oc (newObj s (R 77 1 false [va,vb])) s.next [va,vb] [la,lb]:=by
    refine⟨by rw[AQ,if_pos rfl],rfl,fun j v l h1 h2=>?_⟩
    rcases j with _ | _ | j
    · cases h1;cases h2;exact ha.old ho
    · cases h1;cases h2;exact hb.old ho
    · cases h1
  refine pq hE (L:=[la,lb]) (t6 _) hR (by simp) (fun l hl=>?_) fun s' v o' r'=>?_
  · rcases uT.1            hl with rfl | hl
    · exact⟨hsa,hla⟩
    · rw[ul.1 hl];exact⟨hsb,hlb⟩
  · have e:HE [la,lb]=AC la+AC lb:=by simp[HE]
    rw[e]at r'
    simp only[Qd,Qn,true_and,Qo,Qp,Qq,Qr]
    exact hK s' v (ho.trans (o'.mono ho.1)) (r'.mono ho.1)
end
def NI (v0 v1 v2 v3 x6 x7 x8 x9:AV) (n0:Nat) (x11 x12:AV):FO:=
 MB 243 [v0,v1,v2,v3,.ptr (some (n0,0)),.ptr (some (n0+1,0)),x6,x7,x8,x9,.func 254 [] [.ptr (some (n0+2,0)),.ptr (some (n0+2+1,0)),.ptr (some (n0+2+2,0))],x11,x12] #[18,19] QF QG (n0+5)
structure ne(n0:Nat)(s0:AD)(lo:FO)(P:List (Nat×Nat))(T:List Nat×Nat)(k:Nat)(s:AD):Prop where
 pk:PK n0 (n0+2) s0 s
 lt:n0+7≤s.next
 lp:Bc s (n0+6)=some lo
 mrk:s.heap.get (n0+5)=some .mark
 ex:∃vo d O c,s.heap.get n0=some (R 77 0 false [vo])∧s.heap.get (n0+1)=some (R 187 0 false [AU c])∧Cg 185 s vo d.length 1 (us d) O∧(∀j∈O,n0+7≤j)∧(∀j,Ci vo=some j→n0+7≤j)∧d.length=k∧c≤1∧(d++(Fj (P.drop k) c).1,(Fj (P.drop k) c).2)=T
section
variable{E:Ck}{s:AD}
theorem ZZ(hE:Ak E){n0:Nat}{s0:AD}{v0 v1 v2 v3 x6 x7 x8 x9 x11 x12:AV}{P:List (Nat×Nat)}(hPl:P.length≤10000000000){T:List Nat×Nat}{k x y:Nat}(hP:P[k]? = some (x,y))(hx:x<4294967296)(hy:y<4294967296)
    (hI:ne n0 s0 (NI v0 v1 v2 v3 x6 x7 x8 x9 n0 x11 x12) P T k s) {K:AV→AD→Prop} (hK:∀s',ne n0 s0 (NI v0 v1 v2 v3 x6 x7 x8 x9 n0 x11 x12) P T (k+1) s'→K (.bool true) s'):
    WR E (n0+6) [AU x,AU y] K s:=by
  obtain⟨pk,hlt,hlp,hmk,vo,d,O,c,g1,g2,hD,hO,hsl,hdl,hc,hT⟩:=hI
  have hz:EA (Ec E.P 243) (NI v0 v1 v2 v3 x6 x7 x8 x9 n0 x11 x12).var [18,19] [AU x,AU y]=some [v0,v1,v2,v3,.ptr (some (n0,0)),.ptr (some (n0+1,0)),x6,x7,x8,x9,.func 254 [] [.ptr (some (n0+2,0)),.ptr (some (n0+2+1,0)),.ptr (some (n0+2+2,0))],AU x,AU y]:=by
    rw[hE.P,Uf];rfl
  refine WR.round hlp hz (by rw[hE.P];exact dm) (by rw[hE.P];exact dp) ?_
  refine Hg ?_
  simp only[SP,dz,d8,Qa,Qb,Qc,Qd,Qf,Qh,Qj,Qm,Qn,true_and,Qo,Qp,Qq,Qr,Qs,Qu,Ra]
  refine⟨_,hlp,rfl,Hg ?_⟩
  generalize hs1:setObj s (n0+6) _=s1
  have n1:s1.next=s.next:=by rw[← hs1];rfl
  have f1:∀j,j≠n0+6→s1.heap.get j=s.heap.get j:=fun j hj=>by rw[← hs1,Ww _ hj]
  have l1:Bc s1 (n0+6)=some { NI v0 v1 v2 v3 x6 x7 x8 x9 n0 x11 x12 with state:=.busy }:=by rw[← hs1,GS]
  have g1':=(f1 n0 (by omega)).trans g1
  have g2':=(f1 (n0+1) (by omega)).trans g2
  have hD1:Cg 185 s1 vo d.length 1 (us d) O:=hD.frame (tu n1.symm) (fun j hj=>f1 j (by have:=hsl j hj;omega))
  have hdk:P.drop k=(x,y)::P.drop (k+1):=by
    have hk:k<P.length:=(List.getElem?_eq_some_iff.1 hP).1
    rw[t8 hk]
    rw[tQ hk]at hP
    rw[Option.some.inj hP]
  have hkP:k<P.length:=(List.getElem?_eq_some_iff.1 hP).1
  rw[hdk]at hT
  simp only[Fj]at hT
  have hLB:LB=4294967296:=rfl
  rw[hLB]at hT
  have e1:=Pg Tryz.prog 187 (a:=x) (b:=y) (by omega)
  have e2:=Pg Tryz.prog 187 (a:=(x+18446744073709551616 - y) % 18446744073709551616) (b:=c) (by omega)
  generalize hc1:((x+18446744073709551616 - y) % 18446744073709551616+18446744073709551616 - c) % 18446744073709551616=c1 at e2
  have hc1b:c1<18446744073709551616:=by rw[← hc1];exact ti _ (by decide)
  have e3:=Ll Tryz.prog 187 hc1b
  have e11:c1 % 4294967296 % 4294967296=c1 % 4294967296:=uj _ _
  have e12:c1 % 4294967296=(x+4294967296 - y - c) % 4294967296:=by omega
  have e15:AP Tryz.prog .shr 187 (AU c1) (.int .u64 63)=some (AU (c1 / 9223372036854775808)):=J8 Tryz.prog 187 (k:=.u64) (n:=63) (by decide)
  have e14:c1 / 9223372036854775808=if x<y+c then 1 else 0:=by split<;>omega
  rw[← e12,← e14]at hT
  have hcq:c1 / 9223372036854775808≤1:=by omega
  generalize hz:c1 % 4294967296=z at hT e3 e11
  generalize hbq:c1 / 9223372036854775808=bq at hT e15 hcq
  have ld2:AG Tryz.prog s1 187 (.ptr (some (n0+1,0)))=some (AU c):=Af SE g2' rfl
  have ld12:AG Tryz.prog s1 77 (.ptr (some (n0,0)))=some vo:=Af E7 g1' rfl
  obtain⟨v',s3,O',happ,hD3,hn3,f3,hO3,hsl3⟩:=Js hD1 z (by omega)
  have happ':Ay Tryz.prog (newObj s1 (R 185 1 false [.int .u32 z])) [77,77] [vo,.slice (some (s1.next,0)) 1 (some 1)]=some (v',s3):=happ
  have g13:s3.heap.get n0=some (R 77 0 false [vo]):=(f3 n0 (by omega) (fun h=>by have:=hO n0 h;omega)).trans g1'
  have g23:s3.heap.get (n0+1)=some (R 187 0 false [AU c]):=(f3 (n0+1) (by omega) (fun h=>by have:=hO _ h;omega)).trans g2'
  have hv'c:v'.isCell=true:=by obtain⟨a,cap,rfl,_⟩:=hD3.cells;rfl
  have st3:=Cr (P:=Tryz.prog) (t:=77) (o:=0) (v:=v') px g13 (by simp) hv'c
  simp only[uE]at st3
  generalize hs4:setObj s3 n0 (R 77 0 false [v'])=s4 at st3
  have n4:s4.next=s3.next:=by rw[← hs4];rfl
  have f4:∀j,j≠n0→s4.heap.get j=s3.heap.get j:=fun j hj=>by rw[← hs4,Ww _ hj]
  have g24:=(f4 (n0+1) (by omega)).trans g23
  have st4:=Cr (P:=Tryz.prog) (t:=187) (o:=0) (v:=AU bq) Tr g24 (by simp) rfl
  simp only[uE]at st4
  generalize hs5:setObj s4 (n0+1) (R 187 0 false [AU bq])=s5 at st4
  have n5:s5.next=s4.next:=by rw[← hs5];rfl
  have f5:∀j,j≠n0+1→s5.heap.get j=s4.heap.get j:=fun j hj=>by rw[← hs5,Ww _ hj]
  have fall:∀j,j<s.next→j ∉ O→j≠n0→j≠n0+1→s5.heap.get j=s1.heap.get j:=fun j hj h1 h2 h3=>by
    rw[f5 j h3,f4 j h2,f3 j (by omega) h1]
  have l5:Bc s5 (n0+6)=some { NI v0 v1 v2 v3 x6 x7 x8 x9 n0 x11 x12 with state:=.busy }:=by
    rw[O8 (fall (n0+6) (by omega) (fun h=>by have:=hO _ h;omega) (by omega) (by omega))];exact l1
  simp only[SQ,eC,eE,WX,e1,e2,ld2,ld12,e3,Bj,e11,GZ,Xd,happ',st3,e15,st4,Xx,Xz,Qa,Qb,Qc,Qd,Qf,Qh,Qi,Qj,Qk,Qm,Qn,true_and,Qo,Qp,Qq,Qr,Qs,Qu,Ra,Rd,Yc]
  refine⟨_,l5,hK _ ?_⟩
  have fl:∀j,j≠n0+6→∀r,(setObj s5 (n0+6) r).heap.get j=s5.heap.get j:=fun j hj r=>Ww _ hj
  have hlow:∀j,j<n0+6→j≠n0→j≠n0+1→∀r,(setObj s5 (n0+6) r).heap.get j=s.heap.get j:=fun j h1 h2 h3 r=>by
    rw[fl j (by omega),fall j (by omega) (fun h=>by have:=hO _ h;omega) h2 h3,f1 j (by omega)]
  refine⟨pk.trans ⟨?_,fun j hj=>hlow j (by omega) (by omega) (by omega) _,hlow _ (by omega) (by omega) (by omega) _,hlow _ (by omega) (by omega) (by omega) _,hlow _ (by omega) (by omega) (by omega) _⟩,?_,?_,?_,v',d++[z],O',bq,?_,?_,?_,fun j hj=>?_,fun j hj=>?_,?_,hcq,?_⟩
  · show s.next≤s5.next;omega
  · show n0+7≤s5.next;omega
  · rw[GS];rfl
  · rw[hlow _ (by omega) (by omega) (by omega)];exact hmk
  · rw[fl n0 (by omega),f5 n0 (by omega),← hs4,Wv]
  · rw[fl (n0+1) (by omega),← hs5,Wv]
  · refine hD3.frame (by show s3.next≤s5.next;omega) (fun j hj=>?_)
    have hj7:n0+7≤j:=by
      rcases hsl3 j hj with h | h
      · exact hsl j h
      · omega
    rw[fl j (by omega),f5 j (by omega),f4 j (by omega)]
  · rcases hO3 j hj with h | h
    · exact hO j h
    · omega
  · rcases hsl3 j hj with h | h
    · exact hsl j h
    · omega
  · rw[tX,hdl];rfl
  · rw[tg];exact hT
end
theorem N2:∀ (P:List (Nat×Nat))(c:Nat),(Fj P c).1.length=P.length
 | [],_=>rfl
 | p::P,c=>by show(Fj P _).1.length+1=P.length+1;rw[N2 P]
theorem Ik:∀ (P:List (Nat×Nat))(c:Nat),BZ (Fj P c).1
 | [],_=>fun x hx=>by cases hx
 | p::P,c=>fun x hx=>by
  rcases uT.1 (show x∈(p.1+LB - p.2 - c) % LB::(Fj P (if p.1<p.2+c then 1 else 0)).1 from hx)with e | e
  ·rw[e];exact ti _ A7
  ·exact Ik P _ x e
theorem iW{a b:List Nat}(ha:BZ a)(hb:BZ b)(h:AC b≤AC a):AC (Fj (Bf a b) 0).1=AC a - AC b:=by
 have h1:=Tp (Bf a b) 0 (ZG ha hb) (tV _)
 have h2:=CP (Ik (Bf a b) 0)
 rw[YP,YR,tZ]at h1
 rw[N2]at h2
 generalize AC (Fj (Bf a b) 0).1=z at *
 generalize (Fj (Bf a b) 0).2=c at *
 cases c with
 | zero=>rw[uI]at h1;omega
 | succ c =>
  rw[Nat.mul_succ]at h1
  generalize LB ^ (Bf a b).length=w at *
  generalize w * c=q at *
  omega
theorem W2(a b:Nat):decide (Hh a b<0)=decide (a<b):=by
 unfold Hh
 by_cases h:a<b
 ·rw[if_pos h];simp[h]
 ·rw[if_neg h]
  split<;>simp[h]
section
variable{E:Ck}{s:AD}
theorem iX     (hE : Ak    E) {va vb : AV} {la lb : List Nat} (ha : Cl  s va la) (hb : Cl  s vb lb) (hla : la.length ≤ 1000000000) (hlb : lb.length ≤ 1000000000) (hsa : BZ  la) (hsb : BZ  lb) {K : AV → AD  → Prop}
    (hK0:AC la<AC lb→∀s',A9 s.next s s'→K (.tuple [.slice none 0 (some 0),.bool false]) s')
    (hK1:AC lb≤AC la→∀s' v,A9 s.next s s'→NR s.next s' v (AK (AC la - AC lb))→K (.tuple [v,.bool true]) s'):WF E 243 [va,vb] K s:=by
  refine hE.go j8 (by decide) rfl ?_
  simp only[rC,dr,du,Qa,Qb,Qc,Qd,Qf,Qh,Qi,Qj,Qk,Ql,Qm,Qn,true_and,Qo,Qp,Qq,Qr,Qs,Qu,Ra,Rb,Rg,Rj,Rk,Ro,Yc]
  refine em hE ha hb (by omega) (by omega) hsa hsb fun S oS=>?_
  by_cases hlt:AC la<AC lb
  · have d1:decide (AC la<AC lb)=true:=decide_eq_true hlt
    simp only[dv,Rx,W2,d1,Qb,Qc,Qd,Qf,Qh,Qi,Qm,Qn,true_and,Qo,Qp,Qq,Qr,Qs,Qu,Qy,Ri,Rx]
    exact hK0 hlt S oS
  · have d1 : decide (AC   la < AC   lb) = false := decide_eq_false hlt
    have hNa:=ha.old oS
    have hNb:=hb.old oS
    have hSn:=oS.1
    generalize hn0:S.next=n0 at *
    have za:At Tryz.prog 77=some (R 77 0 false [.slice none 0 (some 0)],.ptr):=by kernel_rfl
    have zc:At Tryz.prog 187=some (R 187 0 false [.int .u64 0],.ptr):=by kernel_rfl
    generalize hS1:newObj S (R 77 0 false [.slice none 0 (some 0)])=S1
    have n1:S1.next=n0+1:=by rw[← hS1,← hn0];rfl
    have o1:∀j,j<n0→S1.heap.get j=S.heap.get j:=fun j hj=>by rw[← hS1,AQ,if_neg (by omega)]
    have g1:S1.heap.get n0=some (R 77 0 false [.slice none 0 (some 0)]):=by rw[← hS1,AQ,if_pos hn0.symm]
    generalize hS2:newObj S1 (R 187 0 false [.int .u64 0])=S2
    have n2:S2.next=n0+2:=by rw[← hS2];show S1.next+1=_;omega
    have g2:S2.heap.get (n0+1)=some (R 187 0 false [.int .u64 0]):=by rw[← hS2,AQ,if_pos n1.symm]
    have o2:∀j,j<n0+1→S2.heap.get j=S1.heap.get j:=fun j hj=>by rw[← hS2,AQ,if_neg (by omega)]
    have st:=Cr (P:=Tryz.prog) (t:=187) (o:=0) (v:=.int .u64 0) Tr g2 (by simp) rfl
    simp only[uE]at st
    generalize hS3:setObj S2 (n0+1) (R 187 0 false [.int .u64 0])=S3 at st
    have n3:S3.next=n0+2:=by rw[← hS3];exact n2
    have g3:S3.heap.get (n0+1)=some (R 187 0 false [AU 0]):=by rw[← hS3,Wv];rfl
    have o3:∀j,j<n0+1→S3.heap.get j=S1.heap.get j:=fun j hj=>by rw[← hS3,Ww _ (by omega),o2 j hj]
    obtain⟨aA,cA,eA,hcapA,hcA⟩:=hNa
    obtain⟨aB,cB,eB,hcapB,hcB⟩:=hNb
    simp only[dw,dx,dy,Rx,W2,d1,za,zc,Xb,hn0,hS1,n1,hS2,st,Xx,Xz,Qb,Qc,Qd,Qf,Qh,Qi,Qj,Qm,Qn,true_and,Qo,Qp,Qq,Qr,Qs,Qu,Qz,Rx]
    refine TL hE (by rw[eA];rfl) (by rw[eB];rfl) fun S4 n4 f4 b1 b2 b3=>?_
    rw[n3]at n4 f4 b1 b2 b3 ⊢
    subst eA;subst eB
    simp only[Qd,Qn,true_and,Qo,Qp]
    refine WC.range rfl ?_
    rw[show S4.next=n0+5 by omega]
    show WF E 254 [.yield (n0+6),.ptr (some (n0+2,0)),.ptr (some (n0+2+1,0)),.ptr (some (n0+2+2,0))] _ (newObj (newObj S4 .mark) (.loop (NI _ _ _ _ _ _ _ _ n0 _ _)))
    generalize hlo:NI _ _ _ _ _ _ _ _ n0 _ _=lo
    have hm1:(newObj S4 .mark).next=n0+6:=by show S4.next+1=_;omega
    generalize hs0:newObj (newObj S4 .mark) (.loop lo)=s0
    have n0':s0.next=n0+7:=by rw[← hs0];show S4.next+1+1=_;omega
    have f0:∀j,j<n0+5→s0.heap.get j=S4.heap.get j:=fun j hj=>by rw[← hs0,AQ,if_neg (by omega),AQ,if_neg (by omega)]
    have hmk0:s0.heap.get (n0+5)=some .mark:=by rw[← hs0,AQ,if_neg (by omega),AQ,if_pos (by omega)]
    have hlp0:Bc s0 (n0+6)=some lo:=by
      unfold Bc
      rw[← hs0,AQ,if_pos hm1.symm]
    have o0:A9 n0 S s0:=⟨by omega,fun j hj=>by rw[f0 j (by omega),f4 j (by omega),o3 j (by omega),o1 j hj]⟩
    have hPl:=Nc la lb
    have hPv:=iW hsa hsb (by omega)
    have hPs:=Ik (Bf la lb) 0
    have hPn:=N2 (Bf la lb) 0
    refine PM hE (s0:=s0) (n0:=n0) (p:=n0+2) (l:=n0+6) (la:=la) (lb:=lb) (ca:=cA) (cb:=cB) (a:=aA) (b:=aB) (by omega) (by omega) hsa hsb ((hcA.old o0 (tu hn0)).mono (tu hn0)) ((hcB.old o0 (tu hn0)).mono (tu hn0)) ((f0 _ (by omega)).trans b1) ((f0 _ (by omega)).trans b2) ((f0 _ (by omega)).trans b3)
      (ne n0 s0 lo (Bf la lb) (Fj (Bf la lb) 0)) (fun k s h=>h.pk) (fun k s K hk hI hK=>by
        subst hlo
        exact ZZ hE (by rw[hPl];omega) (Nb hk) (HO hsa k) (HO hsb k) hI hK)
      ⟨PK.refl _ _ _,by omega,hlp0,hmk0,_,[],[],0,?_,?_,Cg.nil s0 1,fun j hj=>(by cases hj),fun j hj=>(by cases hj),rfl,by omega,rfl⟩ (fun v s' hI=>?_)
    · rw[f0 n0 (by omega),f4 n0 (by omega),o3 n0 (by omega)];exact g1
    · rw[f0 (n0+1) (by omega),f4 (n0+1) (by omega)];exact g3
    obtain⟨pk,hlt',hlp,hmk,vo,d,O,c,k1,k2,hD,hO,hsl,hdl,hc,hT⟩:=hI
    rw[uK (by rw[hPl];omega)]at hT
    simp only[Fj,ud]at hT
    rw[← hT]at hPv hPs hPn
    simp only at hPv hPs hPn
    refine⟨lo,hlp,by rw[← hlo];rfl,?_⟩
    have hpd:lo.pending=none:=by rw[← hlo];rfl
    rw[hpd]
    generalize hs6:setObj s' (n0+5+1) _=s6
    have n6:s6.next=s'.next:=by rw[← hs6];rfl
    have f6:∀j,j≠n0+6→s6.heap.get j=s'.heap.get j:=fun j hj=>by rw[← hs6,Ww _ (by omega)]
    have hD6:Cg 185 s6 vo d.length 1 (us d) O:=hD.frame (tu n6.symm) (fun j hj=>f6 j (by have:=hsl j hj;omega))
    have ld1:AG Tryz.prog s6 77 (.ptr (some (n0,0)))=some vo:=Af E7 ((f6 n0 (by omega)).trans k1) rfl
    simp only[SA,WY,ld1,Qb,Qc,Qd,Qf,Qh,Qi,Qj,Qk,Qm,Qn,true_and,Qq,Qr,Qs,Qu,Ra,Rd]
    have hN:Cl s6 vo d:=Cg.n32 hD6
    refine CA hE hN (by rw[hdl];omega) fun s7 v7 o7 r7=>?_
    rw[BN hPs,hPv]at r7
    have g7:=o7.1
    obtain⟨s8,u1,u2,u3⟩:=Kq [n0+5] s7 (by simp) (fun m h=>by
      rw[ul.1 h,o7.2 _ (by omega),f6 _ (by omega)];exact hmk)
    simp only[u1,Qd,Qm,Qn,true_and,Qo,Qp,Qq,Qr]
    refine hK1 (by omega) s8 v7 ⟨by omega,fun j hj=>?_⟩ ((r7.keep (by omega) (fun j hj=>u3 j (fun h=>?_))).mono (by omega))
    · rw[u3 j (fun h=>by rw[ul.1 h]at hj;omega),o7.2 j (by omega),f6 j (by omega),pk.low j (by omega),o0.2 j (by omega),oS.2 j hj]
    · obtain⟨O,_,_,q,_⟩:=r7
      have:=q j hj
      rw[ul.1 h]at this
      omega
end
end
end Go.Proofs.YtoaaclpjkelofaaGreatDoor.Am
set_option linter.unusedVariables false
set_option linter.unusedSimpArgs false
set_option maxRecDepth 100000
namespace Go.Proofs.YtoaaclpjkelofaaGreatDoor.Am
open Go Go.Proofs
noncomputable section
theorem CS:A1 Tryz.prog 79=some 2:=by kernel_rfl
theorem ER:Ek Tryz.prog 79=some true:=by kernel_rfl
theorem FC(i o:Nat):AN Tryz.prog 79 (.ptr (some (i,o))) 0=some (.ptr (some (i,o+0))):=by kernel_rfl
theorem Fd(i o:Nat):AN Tryz.prog 79 (.ptr (some (i,o))) 1=some (.ptr (some (i,o+1))):=by kernel_rfl
def UF:List AB:=[
 ⟨none,.mk (fun l=>match l with | []=>At Tryz.prog 79 | _=>none),[],(.set 2),[]⟩]
def UG:List AB:=[
 ⟨none,.p1 some,[.var 1],.push,[]⟩,
 ⟨none,.call 202,[.loc 0],.push,[]⟩,
 ⟨none,.p1 some,[.loc 0],(.set 1),[]⟩]
def MU:List AB:=[
 ⟨(some ((.var 0),true)),.p1 some,[.var 1],.push,[]⟩,
 ⟨(some ((.var 0),true)),.r (fun s l=>match l with | [x]=>Bb Tryz.prog s 77 x | _=>none),[.loc 0],.push,[]⟩,
 ⟨(some ((.var 0),true)),.p2 (AP Tryz.prog .gtr 3),[(.loc 0),(.const (.int .i64 (0)))],.push,[]⟩,
 ⟨none,.p Rt,[(.var 0),(.loc 0),(.const (.bool false))],.push,[]⟩,
 ⟨none,.p (fun l=>GD Tryz.prog 79 (zipIdx [0,1] l)),[.loc 0,.var 1],.push,[]⟩,
 ⟨none,.e (fun s=>Xx (fun a x=>Xz (AY Tryz.prog s 79 a x))),[.var 2,.loc 0],.push,[]⟩]
def nj:Au:=⟨2,3,(.seq (.ops UF) (.seq (.ops UG) (.seq (.ops MU) .ret))),[((.var 2),some 79)]⟩
def aG:List AB:=[
 ⟨none,.mk (fun l=>match l with | [v]=>DD 79 v | _=>none),[.var 0],(.set 1),[]⟩,
 ⟨none,.mk (fun l=>match l with | []=>At Tryz.prog 79 | _=>none),[],(.set 2),[]⟩]
def aH:List AB:=[
 ⟨none,.p1 (fun x=>AN Tryz.prog 79 x 0),[.var 1],.push,[]⟩,
 ⟨none,.r1 (fun s a=>AG Tryz.prog s 4 a),[.loc 0],.push,[]⟩,
 ⟨none,.p1 (fun x=>AN Tryz.prog 79 x 1),[.var 1],.push,[]⟩,
 ⟨none,.r1 (fun s a=>AG Tryz.prog s 77 a),[.loc 0],.push,[]⟩,
 ⟨none,.call 181,[.loc 2,.loc 0],.push,[]⟩,
 ⟨none,.e (fun s=>Xx (fun a x=>Xz (AY Tryz.prog s 79 a x))),[.var 2,.loc 0],.push,[]⟩]
def qP:Au:=⟨1,3,(.seq (.ops aG) (.seq (.ops aH) .ret)),[((.var 2),some 79)]⟩
def cq:List AB:=[
 ⟨none,.mk (fun l=>match l with | [v]=>DD 79 v | _=>none),[.var 0],(.set 2),[]⟩,
 ⟨none,.mk (fun l=>match l with | [v]=>DD 79 v | _=>none),[.var 1],(.set 3),[]⟩,
 ⟨none,.mk (fun l=>match l with | []=>At Tryz.prog 79 | _=>none),[],(.set 4),[]⟩]
def ct:List AB:=[
 ⟨none,.r1 (fun s a=>AG Tryz.prog s 79 a),[.var 2],.push,[]⟩,
 ⟨none,.r1 (fun s a=>AG Tryz.prog s 79 a),[.var 3],.push,[]⟩,
 ⟨none,.call 183,[.loc 1],.push,[⟨none,.r1 (fun s a=>AG Tryz.prog s 79 a),[.var 3],(.loc 1)⟩]⟩,
 ⟨none,.call 183,[.loc 1],.push,[]⟩,
 ⟨none,.e (fun s=>Xx (fun a x=>Xz (AY Tryz.prog s 79 a x))),[.var 2,.loc 1],.push,[]⟩,
 ⟨none,.e (fun s=>Xx (fun a x=>Xz (AY Tryz.prog s 79 a x))),[.var 3,.loc 1],.push,[]⟩]
def Ua:List AB:=[
 ⟨none,.p1 (fun x=>AN Tryz.prog 79 x 0),[.var 2],.push,[]⟩,
 ⟨none,.r1 (fun s a=>AG Tryz.prog s 4 a),[.loc 0],.push,[]⟩,
 ⟨none,.p1 (fun x=>AN Tryz.prog 79 x 0),[.var 3],.push,[]⟩,
 ⟨none,.r1 (fun s a=>AG Tryz.prog s 4 a),[.loc 0],.push,[]⟩,
 ⟨none,.p2 (AP Tryz.prog .eql 4),[.loc 2,.loc 0],(.set 8),[]⟩]
def cy:List AB:=[
 ⟨none,.p1 (fun x=>AN Tryz.prog 79 x 0),[.var 2],.push,[]⟩,
 ⟨none,.r1 (fun s a=>AG Tryz.prog s 4 a),[.loc 0],.push,[]⟩,
 ⟨none,.p1 (fun x=>AN Tryz.prog 79 x 1),[.var 2],.push,[]⟩,
 ⟨none,.r1 (fun s a=>AG Tryz.prog s 77 a),[.loc 0],.push,[]⟩,
 ⟨none,.p1 (fun x=>AN Tryz.prog 79 x 1),[.var 3],.push,[]⟩,
 ⟨none,.r1 (fun s a=>AG Tryz.prog s 77 a),[.loc 0],.push,[]⟩,
 ⟨none,.call 242,[.loc 2,.loc 0],.push,[⟨none,.r1 (fun s a=>AG Tryz.prog s 4 a),[.loc 6],(.loc 5)⟩]⟩,
 ⟨none,.call 181,[.loc 5,.loc 0],.push,[]⟩,
 ⟨none,.e (fun s=>Xx (fun a x=>Xz (AY Tryz.prog s 79 a x))),[.var 4,.loc 0],.push,[]⟩]
def cz:List AB:=[
 ⟨none,.p1 (fun x=>AN Tryz.prog 79 x 1),[.var 2],.push,[]⟩,
 ⟨none,.r1 (fun s a=>AG Tryz.prog s 77 a),[.loc 0],.push,[]⟩,
 ⟨none,.p1 (fun x=>AN Tryz.prog 79 x 1),[.var 3],.push,[]⟩,
 ⟨none,.r1 (fun s a=>AG Tryz.prog s 77 a),[.loc 0],.push,[]⟩,
 ⟨none,.call 243,[.loc 2,.loc 0],.push,[]⟩,
 ⟨none,.p1 (fun x=>Za x 0),[.loc 0],.push,[]⟩,
 ⟨none,.p1 (fun x=>Za x 1),[.loc 1],.push,[]⟩,
 ⟨none,.p1 some,[.loc 1],(.set 5),[]⟩,
 ⟨none,.p1 some,[.loc 0],(.set 6),[]⟩]
def Ub:List AB:=[
 ⟨none,.p1 some,[.var 6],(.set 9),[]⟩]
def dA:List AB:=[
 ⟨none,.p1 (fun x=>AN Tryz.prog 79 x 0),[.var 2],.push,[]⟩,
 ⟨none,.r1 (fun s a=>AG Tryz.prog s 4 a),[.loc 0],.push,[]⟩,
 ⟨none,.call 181,[.loc 0,.var 5],.push,[]⟩,
 ⟨none,.e (fun s=>Xx (fun a x=>Xz (AY Tryz.prog s 79 a x))),[.var 4,.loc 0],.push,[]⟩]
def dB:List AB:=[
 ⟨none,.p1 (fun x=>AN Tryz.prog 79 x 1),[.var 3],.push,[]⟩,
 ⟨none,.r1 (fun s a=>AG Tryz.prog s 77 a),[.loc 0],.push,[]⟩,
 ⟨none,.p1 (fun x=>AN Tryz.prog 79 x 1),[.var 2],.push,[]⟩,
 ⟨none,.r1 (fun s a=>AG Tryz.prog s 77 a),[.loc 0],.push,[]⟩,
 ⟨none,.call 243,[.loc 2,.loc 0],.push,[]⟩,
 ⟨none,.p1 (fun x=>Za x 0),[.loc 0],.push,[]⟩,
 ⟨none,.p1 (fun x=>Za x 1),[.loc 1],.push,[]⟩,
 ⟨none,.p1 some,[.loc 1],(.set 7),[]⟩,
 ⟨none,.p1 some,[.loc 0],.push,[]⟩]
def dC:List AB:=[
 ⟨none,.p1 (fun x=>AN Tryz.prog 79 x 0),[.var 3],.push,[]⟩,
 ⟨none,.r1 (fun s a=>AG Tryz.prog s 4 a),[.loc 0],.push,[]⟩,
 ⟨none,.call 181,[.loc 0,.var 7],.push,[]⟩,
 ⟨none,.e (fun s=>Xx (fun a x=>Xz (AY Tryz.prog s 79 a x))),[.var 4,.loc 0],.push,[]⟩]
def qy:Au:=⟨2,10,(.seq (.ops cq) (.seq (.ops ct) (.seq (.seq (.ops Ua) (.cond (.var 8)
 (.seq (.ops cy) .ret)
 .skip)) (.seq (.seq (.ops cz) (.seq (.ops Ub) (.cond (.var 9)
 (.seq (.ops dA) .ret)
 .skip))) (.seq (.ops dB) (.seq (.ops dC) .ret)))))),[((.var 4),some 79)]⟩
def cN:List AB:=[
 ⟨none,.mk (fun l=>match l with | [v]=>DD 79 v | _=>none),[.var 0],(.set 2),[]⟩,
 ⟨none,.mk (fun l=>match l with | [v]=>DD 79 v | _=>none),[.var 1],(.set 3),[]⟩,
 ⟨none,.mk (fun l=>match l with | []=>At Tryz.prog 79 | _=>none),[],(.set 4),[]⟩]
def cO:List AB:=[
 ⟨none,.p1 (fun x=>AN Tryz.prog 79 x 0),[.var 2],.push,[]⟩,
 ⟨none,.r1 (fun s a=>AG Tryz.prog s 4 a),[.loc 0],.push,[]⟩,
 ⟨none,.p1 (fun x=>AN Tryz.prog 79 x 0),[.var 3],.push,[]⟩,
 ⟨none,.r1 (fun s a=>AG Tryz.prog s 4 a),[.loc 0],.push,[]⟩,
 ⟨none,.p2 (AP Tryz.prog .neq 4),[.loc 2,.loc 0],.push,[]⟩,
 ⟨none,.p1 (fun x=>AN Tryz.prog 79 x 1),[.var 2],.push,[]⟩,
 ⟨none,.r1 (fun s a=>AG Tryz.prog s 77 a),[.loc 0],.push,[]⟩,
 ⟨none,.p1 (fun x=>AN Tryz.prog 79 x 1),[.var 3],.push,[]⟩,
 ⟨none,.r1 (fun s a=>AG Tryz.prog s 77 a),[.loc 0],.push,[]⟩,
 ⟨none,.call 192,[.loc 2,.loc 0],.push,[⟨none,.r1 (fun s a=>AG Tryz.prog s 4 a),[.loc 7],(.loc 6)⟩,⟨none,.r1 (fun s a=>AG Tryz.prog s 4 a),[.loc 9],(.loc 8)⟩]⟩,
 ⟨none,.call 181,[.loc 5,.loc 0],.push,[]⟩,
 ⟨none,.e (fun s=>Xx (fun a x=>Xz (AY Tryz.prog s 79 a x))),[.var 4,.loc 0],.push,[]⟩]
def qq:Au:=⟨2,5,(.seq (.ops cN) (.seq (.ops cO) .ret)),[((.var 4),some 79)]⟩
def cH:List AB:=[
 ⟨none,.mk (fun l=>match l with | [v]=>DD 79 v | _=>none),[.var 0],(.set 3),[]⟩,
 ⟨none,.mk (fun l=>match l with | []=>At Tryz.prog 79 | _=>none),[],(.set 4),[]⟩]
def cI:List AB:=[
 ⟨none,.p1 some,[.var 1],(.set 6),[]⟩,
 ⟨none,.r (fun s l=>match l with | [x]=>Bb Tryz.prog s 254 x | _=>none),[.var 6],(.set 7),[]⟩,
 ⟨none,.p1 some,[(.const (.int .i64 (0)))],(.set 8),[]⟩]
def UX:List AB:=[
 ⟨none,.p2 (AP Tryz.prog .lss 3),[.var 8,.var 7],(.set 9),[]⟩]
def cJ:List AB:=[
 ⟨none,.p2 (AR Tryz.prog 254),[.var 6,.var 8],.push,[]⟩,
 ⟨none,.r1 (fun s a=>AG Tryz.prog s 79 a),[.loc 0],.push,[]⟩,
 ⟨none,.mk (fun l=>match l with | []=>At Tryz.prog 79 | _=>none),[],(.set 5),[]⟩,
 ⟨none,.e (fun s=>Xx (fun a x=>Xz (AY Tryz.prog s 79 a x))),[.var 5,.loc 0],.push,[]⟩]
def cK:List AB:=[
 ⟨none,.r1 (fun s a=>AG Tryz.prog s 79 a),[.var 3],.push,[]⟩,
 ⟨none,.r1 (fun s a=>AG Tryz.prog s 79 a),[.var 5],.push,[]⟩,
 ⟨none,.callv,[.var 2,.loc 1,.loc 0],.push,[]⟩,
 ⟨none,.e (fun s=>Xx (fun a x=>Xz (AY Tryz.prog s 79 a x))),[.var 3,.loc 0],.push,[]⟩]
def cL:List AB:=[
 ⟨none,.p2 (AP Tryz.prog .add 3),[(.var 8),(.const (.int .i64 (1)))],.push,[]⟩,
 ⟨none,.p1 some,[.loc 0],(.set 8),[]⟩]
def KH:Aa:=(.seq (.ops UX) (.seq (.cond (.var 9)
 .skip
 (.exit 0)) (.seq (.block 1 (.seq (.ops cJ) (.ops cK))) (.ops cL))))
def cM:List AB:=[
 ⟨none,.r1 (fun s a=>AG Tryz.prog s 79 a),[.var 3],.push,[]⟩,
 ⟨none,.e (fun s=>Xx (fun a x=>Xz (AY Tryz.prog s 79 a x))),[.var 4,.loc 0],.push,[]⟩]
def qo:Au:=⟨3,10,(.seq (.ops cH) (.seq (.seq (.ops cI) (.block 0 (.loop KH))) (.seq (.ops cM) .ret))),[((.var 4),some 79)]⟩
def bh:List AB:=[
 ⟨none,.mk (fun l=>match l with | []=>At Tryz.prog 79 | _=>none),[],(.set 1),[]⟩]
def bj:List AB:=[
 ⟨none,.p (fun l=>GD Tryz.prog 79 (zipIdx [] l)),[],.push,[]⟩,
 ⟨none,.call 214,[(.loc 0),(.var 0),(.const (.func 232 [] []))],.push,[]⟩,
 ⟨none,.e (fun s=>Xx (fun a x=>Xz (AY Tryz.prog s 79 a x))),[.var 1,.loc 0],.push,[]⟩]
def qj:Au:=⟨1,2,(.seq (.ops bh) (.seq (.ops bj) .ret)),[((.var 1),some 79)]⟩
def aZ:List AB:=[
 ⟨none,.mk (fun l=>match l with | []=>At Tryz.prog 79 | _=>none),[],(.set 1),[]⟩]
def ae:List AB:=[
 ⟨none,.call 167,[(.const (.int .i64 (1)))],.push,[]⟩,
 ⟨none,.call 214,[(.loc 0),(.var 0),(.const (.func 215 [] []))],.push,[]⟩,
 ⟨none,.e (fun s=>Xx (fun a x=>Xz (AY Tryz.prog s 79 a x))),[.var 1,.loc 0],.push,[]⟩]
def qT:Au:=⟨1,2,(.seq (.ops aZ) (.seq (.ops ae) .ret)),[((.var 1),some 79)]⟩
def cR:List AB:=[
 ⟨none,.mk (fun l=>match l with | [v]=>DD 79 v | _=>none),[.var 0],(.set 1),[]⟩,
 ⟨none,.p1 some,[(.const (.int .i64 (0)))],(.set 2),[]⟩]
def cT:List AB:=[
 ⟨none,.r1 (fun s a=>AG Tryz.prog s 79 a),[.var 1],.push,[]⟩,
 ⟨none,.call 183,[.loc 0],.push,[]⟩,
 ⟨none,.e (fun s=>Xx (fun a x=>Xz (AY Tryz.prog s 79 a x))),[.var 1,.loc 0],.push,[]⟩]
def P9:List AB:=[
 ⟨none,.p1 (fun x=>AN Tryz.prog 79 x 0),[.var 1],.push,[]⟩,
 ⟨none,.r1 (fun s a=>AG Tryz.prog s 4 a),[.loc 0],.push,[]⟩,
 ⟨none,.p1 some,[.loc 0],(.set 3),[]⟩]
def cU:List AB:=[
 ⟨none,.p1 some,[(.const (.int .i64 (-1)))],(.set 2),[]⟩]
def UY:List AB:=[
 ⟨none,.p1 (fun x=>AN Tryz.prog 79 x 1),[.var 1],.push,[]⟩,
 ⟨none,.r1 (fun s a=>AG Tryz.prog s 77 a),[.loc 0],.push,[]⟩,
 ⟨none,.r (fun s l=>match l with | [x]=>Bb Tryz.prog s 77 x | _=>none),[.loc 0],.push,[]⟩,
 ⟨none,.p2 (AP Tryz.prog .gtr 3),[(.loc 0),(.const (.int .i64 (0)))],.push,[]⟩,
 ⟨none,.p1 some,[.loc 0],(.set 4),[]⟩]
def cV:List AB:=[
 ⟨none,.p1 some,[(.const (.int .i64 (1)))],(.set 2),[]⟩]
def cW:List AB:=[
 ⟨none,.p1 some,[(.const (.int .i64 (0)))],(.set 2),[]⟩]
def qt:Au:=⟨1,5,(.seq (.ops cR) (.seq (.seq (.ops cT) (.block 0 (.seq (.ops P9) (.cond (.var 3)
 (.seq (.ops cU) .ret)
 (.seq (.ops UY) (.cond (.var 4)
 (.seq (.ops cV) .ret)
 .skip)))))) (.seq (.ops cW) .ret))),[((.var 2),none)]⟩
def UB:List AB:=[
 ⟨none,.mk (fun l=>match l with | []=>At Tryz.prog 79 | _=>none),[],(.set 1),[]⟩]
def UC:List AB:=[
 ⟨none,.r1 (fun s x=>Ac Tryz.prog s 2 187 x),[.var 0],.push,[]⟩,
 ⟨none,.p1 some,[.loc 0],(.set 2),[]⟩]
def UD:List AB:=[
 ⟨none,.p2 (AP Tryz.prog .lss 2),[(.var 0),(.const (.int .i64 (0)))],(.set 3),[]⟩]
def Z4:List AB:=[
 ⟨none,.p1 some,[.var 2],.push,[]⟩,
 ⟨none,.p1 (p5 Tryz.prog Go.UnOp.neg),[.loc 0],.push,[]⟩,
 ⟨none,.p1 some,[.loc 0],(.set 2),[]⟩]
def UE:List AB:=[
 ⟨none,.p2 (AP Tryz.prog .lss 2),[(.var 0),(.const (.int .i64 (0)))],.push,[]⟩,
 ⟨none,.r1 (fun s x=>Ac Tryz.prog s 187 185 x),[.var 2],.push,[]⟩,
 ⟨none,.p2 (AP Tryz.prog .shr 187),[(.var 2),(.const (.int .u64 (32)))],.push,[]⟩,
 ⟨none,.r1 (fun s x=>Ac Tryz.prog s 187 185 x),[.loc 0],.push,[]⟩,
 ⟨none,.mk (fun l=>(An Tryz.prog 77 2 (zipIdx [0,1] l)).bind fun r=>some (r,.slice 2)),[.loc 2,.loc 0],.push,[]⟩,
 ⟨none,.call 181,[.loc 4,.loc 0],.push,[]⟩,
 ⟨none,.e (fun s=>Xx (fun a x=>Xz (AY Tryz.prog s 79 a x))),[.var 1,.loc 0],.push,[]⟩]
def ni:Au:=⟨1,4,(.seq (.ops UB) (.seq (.ops UC) (.seq (.seq (.ops UD) (.cond (.var 3)
 (.ops Z4)
 .skip)) (.seq (.ops UE) .ret)))),[((.var 1),some 79)]⟩
theorem W4:AS Tryz.prog 181=some nj:=by kernel_rfl
theorem jW:AS Tryz.prog 183=some qP:=by kernel_rfl
theorem jx:AS Tryz.prog 232=some qy:=by kernel_rfl
theorem jp:AS Tryz.prog 215=some qq:=by kernel_rfl
theorem jo:AS Tryz.prog 214=some qo:=by kernel_rfl
theorem jl:AS Tryz.prog 211=some qj:=by kernel_rfl
theorem ja:AS Tryz.prog 191=some qT:=by kernel_rfl
theorem jr:AS Tryz.prog 218=some qt:=by kernel_rfl
theorem jU:AS Tryz.prog 167=some ni:=by kernel_rfl
end
end Go.Proofs.YtoaaclpjkelofaaGreatDoor.Am
set_option linter.unusedVariables false
namespace Go.Proofs.YtoaaclpjkelofaaGreatDoor.Am
noncomputable section
def CE(neg:Bool)(m:Nat):Int:=if neg=true then -(m:Int)else (m:Int)
def Ef(d:Nat):Nat:=if d=0 then 1 else d
def RP(neg:Bool)(m d:Nat):Rat:=mkRat (CE neg m) (Ef d)
theorem JT(d:Nat):Ef d≠0:=by unfold Ef;split<;>omega
theorem EM(neg:Bool)(m:Nat):(CE neg m).natAbs=m:=by unfold CE;split<;>omega
theorem Nl(neg:Bool)(m d:Nat):(RP neg m d).num=CE neg m / ((m.gcd (Ef d):Nat):Int):=by
 unfold RP
 rw[Rat.num_mkRat,if_neg (JT d),Nat.gcd_comm]
 simp[EM]
theorem TT(neg:Bool)(m d:Nat):(RP neg m d).den=Ef d / m.gcd (Ef d):=by
 unfold RP
 rw[Rat.den_mkRat,if_neg (JT d)]
 simp[EM,Nat.gcd_comm]
theorem RQ{n:Int}{d:Nat}(hd:d≠0)(neg:Bool)(m:Nat)(hn:CE neg m=n):RP neg m d=mkRat n d:=by
 unfold RP Ef
 rw[if_neg hd,hn]
theorem pS{n1 n2:Int}{d1 d2:Nat}(h1:d1≠0)(h2:d2≠0):mkRat n1 d1+mkRat n2 d2=mkRat (n1 * d2+n2 * d1) (d1 * d2):=Rat.mkRat_add_mkRat n1 n2 h1 h2
theorem pU(n1 n2:Int)(d1 d2:Nat):mkRat n1 d1 * mkRat n2 d2=mkRat (n1 * n2) (d1 * d2):=Rat.mkRat_mul_mkRat n1 n2 d1 d2
structure Wr where
 neg:Bool
 num:Nat
 den:Nat
def p7(q:Rat):Wr:=⟨decide (q.num<0),q.num.natAbs,q.den⟩
theorem lX(q:Rat):RP (p7 q).neg (p7 q).num (p7 q).den=q:=by
 have hd:(p7 q).den≠0:=q.den_nz
 have hn:CE (p7 q).neg (p7 q).num=q.num:=by
  unfold CE p7
  by_cases h:q.num<0
  ·simp[h];omega
  ·simp[h];omega
 rw[RQ hd _ _ hn]
 exact Rat.mkRat_self q
end
end Go.Proofs.YtoaaclpjkelofaaGreatDoor.Am
set_option linter.unusedVariables false
set_option linter.unusedSimpArgs false
set_option maxRecDepth 16000
namespace Go.Proofs.YtoaaclpjkelofaaGreatDoor.Am
open Go Go.Proofs
noncomputable section
section
variable{P:Program}{s:AD}{i e sz t n:Nat}{sp:Bool}{cs cs0:List AV}
theorem Al(ht:Ek P t=some true)(hs:A1 P t=some n)(hg:s.heap.get i=some (R e sz sp cs))(hl:cs.length=n):AG P s t (.ptr (some (i,0)))=some (.agg cs):=by
 subst hl
 rw[Wf ht,hs,Option.bind_some,hg,Wo (by omega)]
 simp
theorem Vm{a b:List AV}(h:a.length=b.length):CZ a 0 b=b:=by
 refine List.ext_getElem? fun k=>?_
 rw[Ny _ _ _ _ (by omega)]
 rcases tL k b.length with h' | h'
 ·rw[if_pos ⟨tV _,by omega⟩];rfl
 ·rw[if_neg (by omega),tY (by omega),tY h']
theorem A8(hs:A1 P t=some n)(hg:s.heap.get i=some (R e sz sp cs0))(hl0:cs0.length=n)(hl:cs.length=n)(ha:Ag cs=true)(hn:cs≠[]):AY P s t (.ptr (some (i,0))) (.agg cs)=some (setObj s i (R e sz sp cs)):=by
 rw[Wg,hs]
 show AF (decide (cs.length=n)) (Bi s i 0 cs)=_
 rw[Tn hg (by omega) ha,Vm (by omega),decide_eq_true hl]
 cases cs with
 | nil=>exact absurd rfl hn
 | cons c cs=>rfl
theorem AX(P:Program)(s:AD)(v:List AV)(x:CX)(t:TypeId)(l:List (CX×Option TypeId)):Bg P s v ((x,some t)::l)=(AG P s t (Cc [] v x)).bind fun u=>(Bg P s v l).bind fun r=>some (u::r):=rfl
end
theorem NR.set{b i:Nat}{s:AD}{v:AV}{l:List Nat}(h:NR b s v l)(hi:i<b)(o:AI):NR b (setObj s i o) v l:=
 h.keep (tJ _) fun j hj=>Ww _ (by obtain⟨O,_,_,q,_⟩:=h;have:=q j hj;omega)
theorem A9.set{b i:Nat}{s s':AD}(h:A9 b s s')(hi:b≤i)(o:AI):A9 b s (setObj s' i o):=⟨h.1,fun j hj=>(Ww _ (by omega)).trans (h.2 j hj)⟩
theorem Cl.shape{s:AD}{v:AV}{l:List Nat}(h:Cl s v l):∃a n c,v=.slice a n c:=by obtain⟨a,c,rfl,_⟩:=h;exact⟨_,_,_,rfl⟩
theorem Lu(x:Bool)(a:Option (Nat×Nat))(n:Nat)(c:Option Nat):GD Tryz.prog 79 (zipIdx [0,1] [.bool x,.slice a n c])=some (.agg [.bool x,.slice a n c]):=by kernel_rfl
theorem ET:At Tryz.prog 79=some (R 79 0 false [.bool false,.slice none 0 (some 0)],.ptr):=by kernel_rfl
theorem JW(x:Bool)(a:Option (Nat×Nat))(n:Nat)(c:Option Nat):FT (.agg [.bool x,.slice a n c]) (.agg [.bool x,.slice a n c])=true:=by
 cases a<;>cases c<;>cases x<;>simp[FT,FT.eqAs]
theorem M2(x:Bool):FT (.bool x) (.bool x)=true:=by cases x<;>rfl
def BI(s:AD)(v:AV)(z:Int)(k:Nat):Prop:=∃neg m l,v=.agg [.bool neg,m]∧Cl s m l∧BZ l∧l.length≤k∧CE neg (AC l)=z
def BR(b:Nat)(s:AD)(v:AV)(z:Int):Prop:=∃m,v=.agg [.bool (decide (z<0)),m]∧NR b s m (AK z.natAbs)
theorem BI.old{s s':AD}{v:AV}{z:Int}{k:Nat}(h:BI s v z k)(o:A9 s.next s s'):BI s' v z k:=by
 obtain⟨neg,m,l,h1,h2,h3⟩:=h
 exact⟨neg,m,l,h1,h2.old o,h3⟩
theorem BR.old{b:Nat}{s s':AD}{v:AV}{z:Int}(h:BR b s v z)(o:A9 s.next s s'):BR b s' v z:=by
 obtain⟨m,h1,h2⟩:=h
 exact⟨m,h1,h2.old o⟩
theorem BR.mono{b b':Nat}{s:AD}{v:AV}{z:Int}(h:BR b s v z)(k:b'≤b):BR b' s v z:=by
 obtain⟨m,h1,h2⟩:=h
 exact⟨m,h1,h2.mono k⟩
theorem BR.set{b i:Nat}{s:AD}{v:AV}{z:Int}(h:BR b s v z)(hi:i<b)(o:AI):BR b (setObj s i o) v z:=by
 obtain⟨m,h1,h2⟩:=h
 exact⟨m,h1,h2.set hi o⟩
theorem BL{n k:Nat}(h:n<LB ^ k):(AK n).length≤k:=by
 rcases tL k (AK n).length with h' | h'
 ·exfalso
  have h0:n≠0:=by
   rintro rfl
   rw[BC]at h'
   simp at h'
  have:=NF n h0
  have h2:LB ^ k≤LB ^ ((AK n).length - 1):=uX A7 (by omega)
  omega
 ·exact h'
theorem Gx(z:Int):CE (decide (z<0)) z.natAbs=z:=by
 unfold CE
 by_cases h:z<0
 ·rw[if_pos (decide_eq_true h)];omega
 ·rw[if_neg (by simpa using h)];omega
theorem BR.bi{b k:Nat}{s:AD}{v:AV}{z:Int}(h:BR b s v z)(hz:z.natAbs<LB ^ k):BI s v z k:=by
 obtain⟨m,h1,h2⟩:=h
 exact⟨_,m,_,h1,h2.n32,AT _,BL hz,by rw[AZ,Gx]⟩
theorem BI.abs{s:AD}{v:AV}{z:Int}{k:Nat}(h:BI s v z k):z.natAbs<LB ^ k:=by
 obtain⟨neg,m,l,h1,h2,h3,h4,rfl⟩:=h
 rw[EM]
 exact tO (CP h3) (uX A7 h4)
theorem IE(n:Nat):decide ((0:Int)<((AK n).length:Int))=decide (n≠0):=by
 by_cases h:n=0
 ·subst h;rw[BC];rfl
 ·have:=List.length_pos_iff.2 (Cp h)
  rw[decide_eq_true (show(0:Int)<((AK n).length:Int) by omega),decide_eq_true h]
theorem kS(neg:Bool)(n:Nat):decide (CE neg n<0)=(neg && decide (n≠0)):=by
 unfold CE
 cases neg with
 | false=>rw[if_neg (by decide),Bool.false_and];exact decide_eq_false (by omega)
 | true =>
  rw[if_pos rfl,Bool.true_and]
  by_cases h:n=0
  ·rw[decide_eq_false (show ¬ (-(n:Int)<0) by omega),decide_eq_false (by simpa using h)]
  ·rw[decide_eq_true (show -(n:Int)<0 by omega),decide_eq_true h]
section
variable{E:Ck}{s:AD}
theorem IS(hE:Ak E){neg:Bool}{m:AV}{l:List Nat}(hm:Cl s m l)(hl:l.length≤1000000000)(hs:BZ l){K:AV→AD→Prop}
  (hK:∀s' v,A9 s.next s s'→BR s.next s' v (CE neg (AC l))→K v s'):WF E 181 [.bool neg,m] K s:=by
 refine hE.go W4 (by decide) rfl ?_
 have o1:=A9.new s (R 79 0 false [.bool false,.slice none 0 (some 0)])
 have g1:(newObj s (R 79 0 false [.bool false,.slice none 0 (some 0)])).heap.get s.next=some (R 79 0 false [.bool false,.slice none 0 (some 0)]):=by rw[AQ,if_pos rfl]
 have n1:(newObj s (R 79 0 false [.bool false,.slice none 0 (some 0)])).next=s.next+1:=rfl
 simp only[nj,UF,UG,ET,Xb,Qa,Qb,Qc,Qd,Qf,Qh,Qj,Qk,Ql,Qm,Qn,true_and,Qo,Qp,Qq,Qr,Qs,Qu,Ra,Rg,Ri]
 generalize newObj s (R 79 0 false [.bool false,.slice none 0 (some 0)])=s1 at *
 refine CA hE (hm.old o1) (by omega) fun s2 v2 o2 r2=>?_
 rw[BN hs]at r2
 have g2:=(o2.2 s.next (by omega)).trans g1
 obtain⟨a,c,e2,_⟩:=r2.n32
 have hz:=kS neg (AC l)
 rw[← IE]at hz
 have fin:∀x,x=decide (CE neg (AC l)<0)→K (.agg [.bool x,v2]) (setObj s2 s.next (R 79 0 false [.bool x,v2])):=fun x hx=>by
  subst hx
  refine hK _ _ ((o1.trans (o2.mono o1.1)).set (tJ _) _) (BR.mono (b:=s1.next) ⟨v2,rfl,?_⟩ (by omega))
  rw[EM]
  exact r2.set (by omega) _
 have st:∀x,AY Tryz.prog s2 79 (.ptr (some (s.next,0))) (.agg [.bool x,.slice a (AK (AC l)).length c])=some (setObj s2 s.next (R 79 0 false [.bool x,.slice a (AK (AC l)).length c])):=fun x=>A8 CS g2 rfl rfl rfl (by simp)
 have ld:∀x,AG Tryz.prog (setObj s2 s.next (R 79 0 false [.bool x,.slice a (AK (AC l)).length c])) 79 (.ptr (some (s.next,0)))=some (.agg [.bool x,.slice a (AK (AC l)).length c]):=fun x=>Al ER CS (Wv _ _ _) rfl
 subst e2
 cases neg with
 | true =>
  rw[Bool.true_and]at hz
  simp only[MU,AW Tryz.underlying77,Ry,Rt,Lu,st,ld,AX,Xx,Xz,Qb,Qc,Qd,Qf,Qg,Qh,Qi,Qj,Qk,Qm,Qn,true_and,Qo,Qp,Qq,Qr,Qs,Qu,Qv,Qw,Rj,Rm,Rq,Yc,Rt,Ru,Ry]
  exact fin _ hz.symm
 | false =>
  rw[Bool.false_and]at hz
  simp only[MU,Rt,Lu,st,ld,AX,Xx,Xz,Qb,Qc,Qd,Qf,Qg,Qh,Qi,Qj,Qk,Qm,Qn,true_and,Qo,Qp,Qq,Qr,Qs,Qt,Qu,Qv,Qw,Rj,Rm,Rq,Yc,Rt,Ru]
  exact fin _ hz.symm
theorem jI(hE:Ak E){neg:Bool}{K:AV→AD→Prop}(hK:∀s',A9 s.next s s'→s'.next=s.next+1→K (.agg [.bool false,.slice none 0 (some 0)]) s'):WF E 181 [.bool neg,.slice none 0 (some 0)] K s:=by
 refine hE.go W4 (by decide) rfl ?_
 have o1:=A9.new s (R 79 0 false [.bool false,.slice none 0 (some 0)])
 have g1:(newObj s (R 79 0 false [.bool false,.slice none 0 (some 0)])).heap.get s.next=some (R 79 0 false [.bool false,.slice none 0 (some 0)]):=by rw[AQ,if_pos rfl]
 have n1:(newObj s (R 79 0 false [.bool false,.slice none 0 (some 0)])).next=s.next+1:=rfl
 simp only[nj,UF,UG,ET,Xb,Qa,Qb,Qc,Qd,Qf,Qh,Qj,Qk,Ql,Qm,Qn,true_and,Qo,Qp,Qq,Qr,Qs,Qu,Ra,Rg,Ri]
 generalize newObj s (R 79 0 false [.bool false,.slice none 0 (some 0)])=s1 at *
 refine ib hE ?_
 have st:=A8 (P:=Tryz.prog) (t:=79) (cs:=[.bool false,.slice none 0 (some 0)]) CS g1 rfl rfl rfl (by simp)
 have ld:=Al (P:=Tryz.prog) (t:=79) (s:=setObj s1 s.next (R 79 0 false [.bool false,.slice none 0 (some 0)])) (i:=s.next) ER CS (Wv _ _ _) rfl
 have dd:decide ((0:Int)<((0:Nat):Int))=false:=rfl
 cases neg with
 | true =>
  simp only[MU,AW Tryz.underlying77,Ry,dd,Rt,Lu,st,ld,AX,Xx,Xz,Qb,Qc,Qd,Qf,Qg,Qh,Qi,Qj,Qk,Qm,Qn,true_and,Qo,Qp,Qq,Qr,Qs,Qu,Qv,Qw,Rj,Rm,Rq,Yc,Rt,Ru,Ry]
  exact hK _ (o1.set (tJ _) _) n1
 | false =>
  simp only[MU,Rt,Lu,st,ld,AX,Xx,Xz,Qb,Qc,Qd,Qf,Qg,Qh,Qi,Qj,Qk,Qm,Qn,true_and,Qo,Qp,Qq,Qr,Qs,Qt,Qu,Qv,Qw,Rj,Rm,Rq,Yc,Rt,Ru]
  exact hK _ (o1.set (tJ _) _) n1
theorem jJ(hE:Ak E){neg:Bool}{m:AV}{l:List Nat}(hm:Cl s m l)(hl:l.length≤1000000000)(hs:BZ l){K:AV→AD→Prop}
  (hK:∀s' v,A9 s.next s s'→BR s.next s' v (CE neg (AC l))→(m=.slice none 0 (some 0)→v=.agg [.bool false,.slice none 0 (some 0)])→K v s'):WF E 181 [.bool neg,m] K s:=by
 by_cases h:m=.slice none 0 (some 0)
 ·subst h
  refine jI hE fun s' o _=>hK s' _ o ?_ fun _=>rfl
  obtain⟨a,c,e,_⟩:=hm
  injection e with _ e2 _
  have hl0:l=[]:=List.length_eq_zero_iff.1 e2.symm
  subst hl0
  have hz:CE neg (AC [])=0:=by cases neg<;>rfl
  rw[hz]
  exact⟨_,rfl,by show NR s.next s' _ (AK 0);rw[BC];exact NR.nil _ _⟩
 ·exact IS hE hm hl hs fun s' v o r=>hK s' v o r fun e=>absurd e h
end
theorem Bd(s:AD)(o:AI):(newObj s o).next=s.next+1:=rfl
theorem Hi(s:AD)(A:AI):(newObj s A).next=s.next+1∧A9 s.next s (newObj s A)∧(newObj s A).heap.get s.next=some A:=⟨rfl,A9.new s A,by rw[AQ,if_pos rfl]⟩
theorem OT(s:AD)(A B:AI):(newObj (newObj s A) B).next=s.next+2∧A9 s.next s (newObj (newObj s A) B)∧(newObj (newObj s A) B).heap.get s.next=some A∧(newObj (newObj s A) B).heap.get (s.next+1)=some B:=by
 refine⟨rfl,(A9.new s A).trans ((A9.new (newObj s A) B).mono (t7 _)),?_,?_⟩
 ·rw[AQ,if_neg (by rw[Bd];omega),AQ,if_pos rfl]
 ·rw[AQ,if_pos (by rw[Bd])]
theorem ZA(s:AD)(A B C:AI):(newObj (newObj (newObj s A) B) C).next=s.next+3∧A9 s.next s (newObj (newObj (newObj s A) B) C)∧(newObj (newObj (newObj s A) B) C).heap.get s.next=some A∧(newObj (newObj (newObj s A) B) C).heap.get (s.next+1)=some B∧(newObj (newObj (newObj s A) B) C).heap.get (s.next+2)=some C:=by
 obtain⟨h1,h2,h3,h4⟩:=OT s A B
 refine⟨rfl,h2.trans ((A9.new (newObj (newObj s A) B) C).mono (by omega)),?_,?_,?_⟩
 ·rw[AQ,if_neg (by omega)];exact h3
 ·rw[AQ,if_neg (by omega)];exact h4
 ·rw[AQ,if_pos (by omega)]
abbrev ZI:AI:=R 79 0 false [.bool false,.slice none 0 (some 0)]
abbrev BX(x:Bool)(m:AV):AI:=R 79 0 false [.bool x,m]
section
variable{E:Ck}{s:AD}
theorem MS(hE:Ak E){v:AV}{z:Int}{k:Nat}(hv:BI s v z k)(hk:k≤1000000000){K:AV→AD→Prop}(hK:∀s' v,A9 s.next s s'→BR s.next s' v z→K v s'):WF E 183 [v] K s:=by
 obtain⟨neg,m,l,rfl,hm,hs,hl,rfl⟩:=hv
 obtain⟨a,n,c,rfl⟩:=hm.shape
 refine hE.go jW (by decide) rfl ?_
 obtain⟨n1,o1,g1,g2⟩:=OT s (BX neg (.slice a n c)) ZI
 simp only[qP,aG,aH,Wz,Xg,ET,Xb,Bd,FC,Fd,Qa,Qb,Qc,Qd,Qf,Qh,Qj,Qk,Ql,Qm,Qn,true_and,Qo,Qp,Qq,Qr,Qs,Qu,Ra,Rg,Ri]
 generalize newObj (newObj s (BX neg (.slice a n c))) ZI=s1 at *
 have l1:=Af (P:=Tryz.prog) (t:=4) (o:=0+0) T5 g1 rfl
 have l2:=Af (P:=Tryz.prog) (t:=77) (o:=0+1) E7 g1 rfl
 simp only[l1,l2,Qm]
 refine IS hE (hm.old o1) (by omega) hs fun s2 v2 o2 r2=>?_
 have g3:=(o2.2 (s.next+1) (by omega)).trans g2
 obtain⟨m2,rfl,r2⟩:=r2
 obtain⟨a2,n2,c2,rfl⟩:=r2.n32.shape
 have st:=A8 (P:=Tryz.prog) (t:=79) (cs:=[.bool (decide (CE neg (AC l)<0)),.slice a2 n2 c2]) CS g3 rfl rfl rfl (by simp)
 have ld:=Al (P:=Tryz.prog) (t:=79) (s:=setObj s2 (s.next+1) (R 79 0 false [.bool (decide (CE neg (AC l)<0)),.slice a2 n2 c2])) (i:=s.next+1) ER CS (Wv _ _ _) rfl
 simp only[st,ld,AX,Xx,Xz,Qd,Qj,Qm,Qn,true_and,Qq,Qr,Rj,Rm,Yc]
 exact hK _ _ ((o1.trans (o2.mono o1.1)).set (by omega) _) (BR.mono (b:=s1.next) ⟨_,rfl,r2.set (by omega) _⟩ (by omega))
def Lr(z:Int):Int:=if z<0 then -1 else if 0<z then 1 else 0
theorem Zu(hE:Ak E){v:AV}{z:Int}{k:Nat}(hv:BI s v z k)(hk:k≤1000000000){K:AV→AD→Prop}(hK:∀s',A9 s.next s s'→K (iv (Lr z)) s'):WF E 218 [v] K s:=by
 have hv0:=hv
 obtain⟨neg,m,l,rfl,hm,hs,hl,hz⟩:=hv
 obtain⟨a,n,c,rfl⟩:=hm.shape
 refine hE.go jr (by decide) rfl ?_
 obtain⟨n1,o1,g1⟩:=Hi s (BX neg (.slice a n c))
 simp only[qt,cR,cT,Wz,Xg,Xb,Qa,Qb,Qc,Qd,Qf,Qh,Qi,Qj,Qk,Ql,Qm,Qn,true_and,Qo,Qp,Qq,Qr,Qs,Qu,Ra,Rb,Rd,Re,Rg,Rj,Rk,Rm,Yc]
 generalize newObj s (BX neg (.slice a n c))=s1 at *
 have l1:=Al (P:=Tryz.prog) (t:=79) ER CS g1 rfl
 simp only[l1,Qm]
 refine MS hE (hv0.old o1) hk fun s2 v2 o2 r2=>?_
 have g2:=(o2.2 s.next (by omega)).trans g1
 obtain⟨m2,rfl,r2⟩:=r2
 obtain⟨a2,c2,rfl,_⟩:=r2.n32
 have st:=A8 (P:=Tryz.prog) (t:=79) (cs:=[.bool (decide (z<0)),.slice a2 (AK z.natAbs).length c2]) CS g2 rfl rfl rfl (by simp)
 have l2:=Af (P:=Tryz.prog) (t:=4) (s:=setObj s2 s.next (R 79 0 false [.bool (decide (z<0)),.slice a2 (AK z.natAbs).length c2])) (i:=s.next) (o:=0+0) T5 (Wv _ _ _) rfl
 have l3:=Af (P:=Tryz.prog) (t:=77) (s:=setObj s2 s.next (R 79 0 false [.bool (decide (z<0)),.slice a2 (AK z.natAbs).length c2])) (i:=s.next) (o:=0+1) E7 (Wv _ _ _) rfl
 have hend:=hK (setObj s2 s.next (R 79 0 false [.bool (decide (z<0)),.slice a2 (AK z.natAbs).length c2])) ((o1.trans (o2.mono o1.1)).set (tJ _) _)
 have hp:=IE z.natAbs
 unfold Lr at hend
 by_cases h1:z<0
 ·have d1:decide (z<0)=true:=decide_eq_true h1
  rw[if_pos h1]at hend
  simp only[d1]at *
  simp only[st,l2,FC,P9,cU,Xx,Xz,Qb,Qc,Qd,Qf,Qh,Qi,Qj,Qk,Qm,Qn,true_and,Qo,Qp,Qq,Qr,Qs,Qu,Qy,Ri]
  exact hend
 ·have d1:decide (z<0)=false:=decide_eq_false h1
  rw[if_neg h1]at hend
  by_cases h2:0<z
  ·have d2:decide (z.natAbs≠0)=true:=decide_eq_true (by omega)
   rw[if_pos h2]at hend
   rw[d2]at hp
   simp only[d1]at *
   simp only[st,l2,l3,FC,Fd,AW Tryz.underlying77,Ry,hp,P9,UY,cV,Xx,Xz,Qb,Qc,Qd,Qf,Qh,Qi,Qj,Qk,Qm,Qn,true_and,Qo,Qp,Qq,Qr,Qs,Qu,Qy,Qz,Ri,Ry]
   exact hend
  ·have d2:decide (z.natAbs≠0)=false:=decide_eq_false (by omega)
   rw[if_neg h2]at hend
   rw[d2]at hp
   simp only[d1]at *
   simp only[st,l2,l3,FC,Fd,AW Tryz.underlying77,Ry,hp,P9,UY,cW,Xx,Xz,Qb,Qc,Qd,Qf,Qh,Qi,Qj,Qk,Qm,Qn,true_and,Qo,Qp,Qq,Qr,Qs,Qu,Qz,Ri,Ry]
   exact hend
end
theorem gk(x y:Bool):AP Tryz.prog .neq 4 (.bool x) (.bool y)=some (.bool (x != y)):=by cases x<;>cases y<;>kernel_rfl
theorem Sl(x y:Bool):AP Tryz.prog .eql 4 (.bool x) (.bool y)=some (.bool (x == y)):=by cases x<;>cases y<;>kernel_rfl
theorem gD(x y:Bool)(a b:Nat):CE (x != y) (a * b)=CE x a * CE y b:=by
 unfold CE
 cases x<;>cases y<;>simp[Int.neg_mul,Int.mul_neg]
theorem FK{a b j k:Nat}(ha:a<LB ^ j)(hb:b<LB ^ k):a * b<LB ^ (j+k):=by
 rw[Nat.pow_add]
 exact Nat.mul_lt_mul'' ha hb
theorem Ni{a b k:Nat}(ha:a<LB ^ k)(hb:b<LB ^ k):a+b<LB ^ (k+1):=by
 rw[uF]
 have:LB ^ k * 2≤LB ^ k * LB:=tt _ (by decide)
 omega
theorem Jr{a j k:Nat}(ha:a<LB ^ j)(h:j≤k):a<LB ^ k:=tO ha (uX A7 h)
theorem HR{l:List Nat}{k:Nat}(hs:BZ l)(h:l.length≤k):AC l<LB ^ k:=Jr (CP hs) h
section
variable{E:Ck}{s:AD}
theorem GC{s1 s2:AD}{p:Nat}{x:Bool}{a:Option (Nat×Nat)}{n:Nat}{c:Option Nat}(hg:s2.heap.get p=some ZI):
  AY Tryz.prog s2 79 (.ptr (some (p,0))) (.agg [.bool x,.slice a n c])=some (setObj s2 p (BX x (.slice a n c)))∧AG Tryz.prog (setObj s2 p (BX x (.slice a n c))) 79 (.ptr (some (p,0)))=some (.agg [.bool x,.slice a n c]):=
 ⟨A8 CS hg rfl rfl rfl (by simp),Al ER CS (Wv _ _ _) rfl⟩
theorem SM(hE:Ak E){va vb:AV}{x y:Int}{ka kb:Nat}(ha:BI s va x ka)(hb:BI s vb y kb)(hk:ka+kb≤1000000000){K:AV→AD→Prop}(hK:∀s' v,A9 s.next s s'→BR s.next s' v (x * y)→K v s'):WF E 215 [va,vb] K s:=by
 obtain⟨na,ma,la,rfl,hma,hsa,hla,rfl⟩:=ha
 obtain⟨nb,mb,lb,rfl,hmb,hsb,hlb,rfl⟩:=hb
 obtain⟨aa,an,ac,rfl⟩:=hma.shape
 obtain⟨ba,bn,bc,rfl⟩:=hmb.shape
 refine hE.go jp (by decide) rfl ?_
 obtain⟨n1,o1,g1,g2,g3⟩:=ZA s (BX na (.slice aa an ac)) (BX nb (.slice ba bn bc)) ZI
 simp only[qq,cN,cO,Wz,Xg,ET,Xb,Bd,FC,Fd,Qa,Qb,Qc,Qd,Qf,Qh,Qj,Qk,Ql,Qm,Qn,true_and,Qo,Qp,Qq,Qr,Qs,Qu,Ra,Rg,Ri]
 generalize newObj (newObj (newObj s (BX na (.slice aa an ac))) (BX nb (.slice ba bn bc))) ZI=s1 at *
 have l1:=Af (P:=Tryz.prog) (t:=4) (o:=0+0) T5 g1 rfl
 have l2:=Af (P:=Tryz.prog) (t:=77) (o:=0+1) E7 g1 rfl
 have l3:=Af (P:=Tryz.prog) (t:=4) (o:=0+0) T5 g2 rfl
 have l4:=Af (P:=Tryz.prog) (t:=77) (o:=0+1) E7 g2 rfl
 simp only[l1,l2,l3,l4,gk,Qm]
 refine VL hE (hma.old o1) (hmb.old o1) (by omega) (by omega) hsa hsb fun s2 v2 o2 r2=>?_
 have f1:=(o2.2 s.next (by omega)).trans g1
 have f2:=(o2.2 (s.next+1) (by omega)).trans g2
 have f3:=(o2.2 (s.next+1+1) (by omega)).trans g3
 refine⟨⟨BK (by simp only[Qk,Qq,Qr];exact Af (o:=0+0) T5 f2 rfl) (M2 _),BK (by simp only[Qk,Qq,Qr];exact Af (o:=0+0) T5 f1 rfl) (M2 _),trivial⟩,?_⟩
 have hlen:(AK (AC la * AC lb)).length≤1000000000:=tN (BL (FK (HR hsa hla) (HR hsb hlb))) hk
 simp only[Qq,Qr]
 refine IS hE r2.n32 hlen (AT _) fun s3 v3 o3 r3=>?_
 rw[AZ,gD]at r3
 have q3:=(o3.2 (s.next+1+1) (by have:=o2.1;omega)).trans f3
 obtain⟨m3,rfl,r3⟩:=r3
 obtain⟨a3,n3,c3,rfl⟩:=r3.n32.shape
 obtain⟨st,ld⟩:=GC (s1:=s) (x:=decide (CE na (AC la) * CE nb (AC lb)<0)) (a:=a3) (n:=n3) (c:=c3) q3
 simp only[st,ld,AX,Xx,Xz,Qd,Qj,Qm,Qn,true_and,Qq,Qr,Rj,Rm,Yc]
 have h2:=o2.1
 exact hK _ _ ((o1.trans ((o2.trans (o3.mono h2)).mono o1.1)).set (by omega) _) (BR.mono (b:=s2.next) ⟨_,rfl,r3.set (by omega) _⟩ (by omega))
end
theorem iZ{x y:Int}(h:decide (x<0)=decide (y<0)):CE (decide (x<0)) (x.natAbs+y.natAbs)=x+y:=by
 unfold CE
 by_cases hx:x<0
 ·have hy:y<0:=by rw[decide_eq_true hx]at h;exact of_decide_eq_true h.symm
  rw[if_pos (decide_eq_true hx)];omega
 ·have hy:¬ y<0:=by rw[decide_eq_false hx]at h;exact of_decide_eq_false h.symm
  rw[if_neg (by simpa using hx)];omega
theorem Tq{x y:Int}(h:decide (x<0)≠decide (y<0))(hl:y.natAbs≤x.natAbs):CE (decide (x<0)) (x.natAbs - y.natAbs)=x+y:=by
 unfold CE
 by_cases hx:x<0
 ·have hy:¬ y<0:=fun hy=>h (by rw[decide_eq_true hx,decide_eq_true hy])
  rw[if_pos (decide_eq_true hx)];omega
 ·have hy:y<0:=Classical.byContradiction fun hy=>h (by rw[decide_eq_false hx,decide_eq_false hy])
  rw[if_neg (by simpa using hx)];omega
section
variable{E:Ck}{s:AD}
theorem SJ       (hE : Ak    E) {va vb : AV} {x y : Int} {ka kb : Nat} (ha : BI s va x ka) (hb : BI s vb y kb) (hk : ka + kb + 1 ≤ 1000000000) {K : AV → AD  → Prop} (hK : ∀ s' v, A9  s.next s s' → BR s.next s' v (x + y) → K v s') : WF E 232 [va, vb] K s := by
  have ha0:=ha
  have hb0:=hb
  have xb:=ha.abs
  have yb:=hb.abs
  obtain⟨na,ma,la,rfl,hma,hsa,hla,hxa⟩:=ha
  obtain⟨nb,mb,lb,rfl,hmb,hsb,hlb,hyb⟩:=hb
  obtain⟨aa,an,ac,rfl⟩:=hma.shape
  obtain⟨ba,bn,bc,rfl⟩:=hmb.shape
  refine hE.go jx (by decide) rfl ?_
  obtain⟨n1,o1,g1,g2,g3⟩:=ZA s (BX na (.slice aa an ac)) (BX nb (.slice ba bn bc)) ZI
  simp only[qy,cq,ct,Wz,Xg,ET,Xb,Bd,Qa,Qb,Qc,Qd,Qf,Qh,Qj,Qk,Ql,Qm,Qn,true_and,Qo,Qp,Qq,Qr,Qs,Qu,Ra,Rb,Rg]
  generalize newObj (newObj (newObj s (BX na (.slice aa an ac))) (BX nb (.slice ba bn bc))) ZI=s1 at *
  have l1:=Al (P:=Tryz.prog) (t:=79) ER CS g1 rfl
  have l2:=Al (P:=Tryz.prog) (t:=79) ER CS g2 rfl
  simp only[l1,l2,Qm]
  refine MS hE (ha0.old o1) (by omega) fun s2 v2 o2 r2=>?_
  have f1:=(o2.2 s.next (by omega)).trans g1
  have f2:=(o2.2 (s.next+1) (by omega)).trans g2
  have f3:=(o2.2 (s.next+1+1) (by omega)).trans g3
  refine⟨⟨BK (by simp only[Qj,Qk,Qq,Qr];exact Al ER CS f2 rfl) (JW _ _ _ _),trivial⟩,?_⟩
  simp only[Qq,Qr]
  have h2:=o2.1
  refine MS hE (hb0.old (o1.trans (o2.mono o1.1))) (by omega) fun s3 v3 o3 r3=>?_
  have h3:=o3.1
  have e1:=(o3.2 s.next (by omega)).trans f1
  have e2:=(o3.2 (s.next+1) (by omega)).trans f2
  have e3:=(o3.2 (s.next+1+1) (by omega)).trans f3
  have r2':=r2.old o3
  obtain⟨m2,rfl,q2⟩:=r2'
  obtain⟨m3,rfl,q3⟩:=r3
  obtain⟨a2,n2,c2,rfl⟩:=q2.n32.shape
  obtain⟨a3,n3,c3,rfl⟩:=q3.n32.shape
  have st1:=A8 (P:=Tryz.prog) (t:=79) (cs:=[.bool (decide (x<0)),.slice a2 n2 c2]) CS e1 rfl rfl rfl (by simp)
  generalize hs4:setObj s3 s.next (BX (decide (x<0)) (.slice a2 n2 c2))=s4 at st1
  have e2':s4.heap.get (s.next+1)=some (BX nb (.slice ba bn bc)):=by rw[← hs4,Ww _ (by omega)];exact e2
  have st2:=A8 (P:=Tryz.prog) (t:=79) (cs:=[.bool (decide (y<0)),.slice a3 n3 c3]) CS e2' rfl rfl rfl (by simp)
  generalize hs5:setObj s4 (s.next+1) (BX (decide (y<0)) (.slice a3 n3 c3))=s5 at st2
  have k1:s5.heap.get s.next=some (BX (decide (x<0)) (.slice a2 n2 c2)):=by rw[← hs5,Ww _ (by omega),← hs4,Wv]
  have k2:s5.heap.get (s.next+1)=some (BX (decide (y<0)) (.slice a3 n3 c3)):=by rw[← hs5,Wv]
  have k3:s5.heap.get (s.next+1+1)=some ZI:=by rw[← hs5,Ww _ (by omega),← hs4,Ww _ (by omega)];exact e3
  have n5:s5.next=s3.next:=by rw[← hs5,← hs4];rfl
  have o5:A9 s.next s s5:=by
    rw[← hs5,← hs4]
    exact((o1.trans ((o2.trans (o3.mono h2)).mono o1.1)).set (tJ _) _).set (by omega) _
  have w2:NR s1.next s5 (.slice a2 n2 c2) (AK x.natAbs):=by rw[← hs5,← hs4];exact(q2.set (by omega) _).set (by omega) _
  have w3:NR s2.next s5 (.slice a3 n3 c3) (AK y.natAbs):=by rw[← hs5,← hs4];exact(q3.set (by omega) _).set (by omega) _
  have l1:=Af (P:=Tryz.prog) (t:=4) (o:=0+0) T5 k1 rfl
  have l2:=Af (P:=Tryz.prog) (t:=77) (o:=0+1) E7 k1 rfl
  have l3:=Af (P:=Tryz.prog) (t:=4) (o:=0+0) T5 k2 rfl
  have l4:=Af (P:=Tryz.prog) (t:=77) (o:=0+1) E7 k2 rfl
  have xl:=BL xb
  have yl:=BL yb
  have vx:=AZ x.natAbs
  have vy:=AZ y.natAbs
  have fin:∀ (sg:Bool) (s6:AD) (v6:AV) (L:Nat),A9 s5.next s5 s6→NR s5.next s6 v6 (AK L)→L<LB ^ (ka+kb+1)→CE sg L=x+y→∀K2:AV→AD→Prop,
      (∀s7 x7 a7 n7 c7,AY Tryz.prog s7 79 (.ptr (some (s.next+1+1,0))) (.agg [.bool x7,.slice a7 n7 c7])=some (setObj s7 (s.next+1+1) (BX x7 (.slice a7 n7 c7))) →
        AG Tryz.prog (setObj s7 (s.next+1+1) (BX x7 (.slice a7 n7 c7))) 79 (.ptr (some (s.next+1+1,0)))=some (.agg [.bool x7,.slice a7 n7 c7]) →
        K (.agg [.bool x7,.slice a7 n7 c7]) (setObj s7 (s.next+1+1) (BX x7 (.slice a7 n7 c7)))→K2 (.agg [.bool x7,.slice a7 n7 c7]) s7)→WF E 181 [.bool sg,v6] K2 s6:=by
    intro sg s6 v6 L o6 r6 hL hsg K2 hK2
    refine IS hE r6.n32 (tN (BL hL) hk) (AT _) fun s7 v7 o7 r7=>?_
    rw[AZ,hsg]at r7
    have h6:=o6.1
    have g7:s7.heap.get (s.next+1+1)=some ZI:=by rw[o7.2 _ (by omega),o6.2 _ (by omega)];exact k3
    obtain⟨m7,rfl,r7⟩:=r7
    obtain⟨a7,n7,c7,rfl⟩:=r7.n32.shape
    obtain⟨st,ld⟩:=GC (s1:=s) (x:=decide (x+y<0)) (a:=a7) (n:=n7) (c:=c7) g7
    refine hK2 _ _ _ _ _ st ld (hK _ _ ((o5.trans ((o6.trans (o7.mono h6)).mono o5.1)).set (by omega) _) (BR.mono (b:=s6.next) ⟨_,rfl,r7.set (by omega) _⟩ (by omega)))
  have hm1:x.natAbs+y.natAbs<LB ^ (ka+kb+1):=Ni (Jr xb (by omega)) (Jr yb (by omega))
  by_cases hsg:decide (x<0)=decide (y<0)
  · have db:(decide (x<0) == decide (y<0))=true:=by rw[hsg];simp
    simp only[Ua,cy,st1,st2,l1,l2,l3,l4,FC,Fd,Sl,db,Xx,Xz,Qb,Qc,Qd,Qf,Qh,Qj,Qk,Qm,Qn,true_and,Qo,Qp,Qq,Qr,Qs,Qu,Qy,Ri]
    refine ng hE w2.n32 w3.n32 (by omega) (by omega) (AT _) (AT _) fun s6 v6 o6 r6=>?_
    rw[vx,vy]at r6
    refine⟨⟨BK (by simp only[Qk,Qq,Qr];exact Af (o:=0+0) T5 ((o6.2 s.next (by omega)).trans k1) rfl) (M2 _),trivial⟩,?_⟩
    simp only[Qq,Qr]
    refine fin _ s6 v6 _ o6 r6 hm1 (iZ hsg) _ fun s7 x7 a7 n7 c7 st ld hk=>?_
    simp only[st,ld,AX,Qd,Qj,Qm,Qn,true_and,Qq,Qr,Rj,Rm,Yc]
    exact hk
  · have db:(decide (x<0) == decide (y<0))=false:=by simpa using hsg
    simp only[Ua,cz,st1,st2,l1,l2,l3,l4,FC,Fd,Sl,db,Xx,Xz,Qb,Qc,Qd,Qf,Qh,Qj,Qk,Qm,Qn,true_and,Qo,Qp,Qq,Qr,Qs,Qu,Qz,Za]
    refine iX hE w2.n32 w3.n32 (by omega) (by omega) (AT _) (AT _) (fun hlt s6 o6=>?_) (fun hge s6 v6 o6 r6=>?_)
    · rw[vx,vy]at hlt
      have h6:=o6.1
      have u1:=(o6.2 s.next (by omega)).trans k1
      have u2:=(o6.2 (s.next+1) (by omega)).trans k2
      have l1:=Af (P:=Tryz.prog) (t:=4) (o:=0+0) T5 u1 rfl
      have l2:=Af (P:=Tryz.prog) (t:=77) (o:=0+1) E7 u1 rfl
      have l3:=Af (P:=Tryz.prog) (t:=4) (o:=0+0) T5 u2 rfl
      have l4:=Af (P:=Tryz.prog) (t:=77) (o:=0+1) E7 u2 rfl
      simp only[Ub,dB,Za,l2,l4,Fd,Qb,Qc,Qd,Qf,Qh,Qj,Qk,Qm,Qn,true_and,Qo,Qp,Qq,Qr,Qs,Qu,Qz,Ri,Za,Yd,Ye]
      refine iX hE (w3.n32.old o6) (w2.n32.old o6) (by omega) (by omega) (AT _) (AT _) (fun h=>by rw[vx,vy]at h;omega) (fun _ s7 v7 o7 r7=>?_)
      rw[vx,vy]at r7
      have l5:=Af (P:=Tryz.prog) (t:=4) (o:=0+0) T5 ((o7.2 (s.next+1) (by omega)).trans u2) rfl
      simp only[dC,l5,FC,Qb,Qc,Qd,Qf,Qh,Qj,Qk,Qm,Qn,true_and,Qo,Qp,Qq,Qr,Qs,Qu,Yd,Ye]
      refine fin _ s7 v7 _ (o6.trans (o7.mono h6)) (r7.mono h6) (uH (by omega) hm1) ?_ _ fun s7 x7 a7 n7 c7 st ld hk=>?_
      · rw[Int.add_comm x y];exact Tq (fun e=>hsg e.symm) (by omega)
      · simp only[st,ld,AX,Xx,Xz,Qd,Qj,Qm,Qn,true_and,Qq,Qr,Rj,Rm,Yc]
        exact hk
    · rw[vx,vy]at hge r6
      have u1:=(o6.2 s.next (by omega)).trans k1
      have l1:=Af (P:=Tryz.prog) (t:=4) (o:=0+0) T5 u1 rfl
      simp only[Ub,dA,l1,FC,Qb,Qc,Qd,Qf,Qh,Qj,Qk,Qm,Qn,true_and,Qo,Qp,Qq,Qr,Qs,Qu,Qy,Ri,Yd,Ye]
      refine fin _ s6 v6 _ o6 r6 (uH (by omega) hm1) (Tq hsg hge) _ fun s7 x7 a7 n7 c7 st ld hk=>?_
      simp only[st,ld,AX,Xx,Xz,Qd,Qj,Qm,Qn,true_and,Qq,Qr,Rj,Rm,Yc]
      exact hk
end
theorem Yg{n:Int}(h:n=0∨n=1∨n=-1)(s:AD):∃m:Nat,m=n.natAbs ∧
  ((decide (n<0)=false∧Ac Tryz.prog s 2 187 (iv n)=some (AU m))∨(decide (n<0)=true∧Ac Tryz.prog s 2 187 (iv n)=some (.int .u64 18446744073709551615)∧p5 Tryz.prog Go.UnOp.neg (.int .u64 18446744073709551615)=some (AU m))):=by
 rcases h with rfl | rfl | rfl
 ·exact⟨0,rfl,.inl ⟨rfl,by kernel_rfl⟩⟩
 ·exact⟨1,rfl,.inl ⟨rfl,by kernel_rfl⟩⟩
 ·exact⟨1,rfl,.inr ⟨rfl,by kernel_rfl,by kernel_rfl⟩⟩
section
variable{E:Ck}{s:AD}
theorem SL       (hE : Ak    E) {n : Int} (h : n = 0 ∨ n = 1 ∨ n = -1) {K : AV → AD  → Prop} (hK : ∀ s' v, A9  s.next s s' → BR s.next s' v n → K v s') : WF E 167 [iv n] K s := by
  refine hE.go jU (by decide) rfl ?_
  obtain⟨n1,o1,g1⟩:=Hi s ZI
  have hn:=Yg h (newObj s ZI)
  obtain⟨m,hm,hcase⟩:=hn
  have hm1:m≤1:=by rcases h with rfl | rfl | rfl<;>simp at hm<;>omega
  have e3:AP Tryz.prog .shr 187 (AU m) (.int .u64 32)=some (AU (m / 4294967296)):=J8 Tryz.prog 187 (k:=.u64) (n:=32) (by decide)
  have e4:m / 4294967296=0:=by omega
  have e5:m % 4294967296=m:=by omega
  rw[e4]at e3
  have key:∀neg:Bool,neg=decide (n<0)→∀ (K2:AV→AD→Prop),(∀s7 x7 a7 n7 c7,AY Tryz.prog s7 79 (.ptr (some (s.next,0))) (.agg [.bool x7,.slice a7 n7 c7])=some (setObj s7 s.next (BX x7 (.slice a7 n7 c7))) →
        AG Tryz.prog (setObj s7 s.next (BX x7 (.slice a7 n7 c7))) 79 (.ptr (some (s.next,0)))=some (.agg [.bool x7,.slice a7 n7 c7]) →
        K (.agg [.bool x7,.slice a7 n7 c7]) (setObj s7 s.next (BX x7 (.slice a7 n7 c7)))→K2 (.agg [.bool x7,.slice a7 n7 c7]) s7) →
      WF E 181 [.bool neg,.slice (some ((newObj s ZI).next,0)) 2 (some 2)] K2 (newObj (newObj s ZI) (R 185 1 false [BS m,BS 0])):=by
    intro neg hneg K2 hK2
    obtain⟨n2,o2,g2⟩:=Hi (newObj s ZI) (R 185 1 false [BS m,BS 0])
    generalize newObj (newObj s ZI) (R 185 1 false [BS m,BS 0])=s2 at *
    generalize newObj s ZI=s1 at *
    have hN:Cl s2 (.slice (some (s1.next,0)) 2 (some 2)) [m,0]:=⟨some (s1.next,0),some 2,rfl,.inl ⟨2,rfl,tJ _,fun e=>by cases e⟩,QL g2 (by omega)⟩
    refine IS hE hN (by simp) (fun x hx=>?_) fun s7 v7 o7 r7=>?_
    · rcases uT.1            hx with rfl | hx
      · exact uH hm1 (by decide)
      · rw[ul.1 hx];exact(by decide)
    have hv:CE neg (AC [m,0])=n:=by
      have:AC [m,0]=n.natAbs:=by rw[← hm];simp[AC]
      rw[this,hneg]
      exact Gx n
    rw[hv]at r7
    have g7:s7.heap.get s.next=some ZI:=by rw[o7.2 _ (by omega),o2.2 _ (by omega)];exact g1
    obtain⟨m7,rfl,r7⟩:=r7
    obtain⟨a7,n7,c7,rfl⟩:=r7.n32.shape
    obtain⟨st,ld⟩:=GC (s1:=s) (x:=decide (n<0)) (a:=a7) (n:=n7) (c:=c7) g7
    have h2:=o2.1
    refine hK2 _ _ _ _ _ st ld (hK _ _ ((o1.trans ((o2.trans (o7.mono h2)).mono o1.1)).set (by omega) _) (BR.mono (b:=s2.next) ⟨_,rfl,r7.set (by omega) _⟩ (by omega)))
  rcases hcase with⟨d,c1⟩ | ⟨d,c1,c2⟩
  · simp only[ni,UB,UC,UD,UE,ET,Xb,c1,Rx,d,Bj,e3,e5,Nat.zero_mod,RY,Xd,Qa,Qb,Qc,Qd,Qf,Qh,Qi,Qj,Qk,Ql,Qm,Qn,true_and,Qo,Qp,Qq,Qr,Qs,Qu,Qz,Ra,Rg,Ri,Yc,Rx]
    refine key false d.symm _ fun s7 x7 a7 n7 c7 st ld hk=>?_
    simp only[st,ld,AX,Xx,Xz,Qd,Qj,Qm,Qn,true_and,Qq,Qr,Rj,Rm,Yc]
    exact hk
  · simp only[ni,UB,UC,UD,Z4,UE,ET,Xb,c1,c2,Rx,d,Bj,e3,e5,Nat.zero_mod,RY,Xd,Qa,Qb,Qc,Qd,Qf,Qh,Qi,Qj,Qk,Ql,Qm,Qn,true_and,Qo,Qp,Qq,Qr,Qs,Qu,Qy,Ra,Rg,Ri,Yc,Rx]
    refine key true d.symm _ fun s7 x7 a7 n7 c7 st ld hk=>?_
    simp only[st,ld,AX,Xx,Xz,Qd,Qj,Qm,Qn,true_and,Qq,Qr,Rj,Rm,Yc]
    exact hk
end
theorem Bq{P:Program}{s:AD}{i e sz t n o:Nat}{sp:Bool}{cs:List AV}(ht:Ek P t=some true)(hs:A1 P t=some n)(hg:s.heap.get i=some (R e sz sp cs))(hl:o+n≤cs.length):AG P s t (.ptr (some (i,o)))=some (.agg ((cs.drop o).take n)):=by
 rw[Wf ht,hs,Option.bind_some,hg,Wo hl]
 rfl
theorem BI.shape{s:AD}{v:AV}{z:Int}{k:Nat}(h:BI s v z k):∃x a n c,v=.agg [.bool x,.slice a n c]:=by
 obtain⟨neg,m,l,rfl,hm,_⟩:=h
 obtain⟨a,n,c,rfl⟩:=hm.shape
 exact⟨_,_,_,_,rfl⟩
section
variable{E:Ck}{s:AD}
theorem Ov{S:AD}{p i:Nat}(hi:i<2){f:FuncId}{x0:Bool}{a0:Option (Nat×Nat)}{n0:Nat}{c0:Option Nat}{x1:Bool}{a1:Option (Nat×Nat)}{n1:Nat}{c1:Option Nat}{ri:Nat}
  (hp:p+1<S.next) (hb:S.heap.get p=some (BX x0 (.slice a0 n0 c0))) (hel:AG Tryz.prog S 79 (.ptr (some (ri,0+i * 2)))=some (.agg [.bool x1,.slice a1 n1 c1])) {r:Int}
  (hf:∀ (s:AD) (K:AV→AD→Prop),A9 S.next S s→(∀s' v,A9 s.next s s'→BR s.next s' v r→K v s')→WF E f [.agg [.bool x0,.slice a0 n0 c0],.agg [.bool x1,.slice a1 n1 c1]] K s)
  {Q:Ax→Prop} {y0 y1 y5 y9:AV}
  (hgo:∀ (s':AD) (x2:Bool) (a2:Option (Nat×Nat)) (n2:Nat) (c2:Option Nat) (y5 y9:AV),S.next≤s'.next→(∀j,j<S.next→j≠p→s'.heap.get j=S.heap.get j)→s'.heap.get p=some (BX x2 (.slice a2 n2 c2))→BR S.next s' (.agg [.bool x2,.slice a2 n2 c2]) r →
   WC E none (.loop KH) Q [y0,y1,.func f [] [],.ptr (some (p,0)),.ptr (some (p+1,0)),y5,.slice (some (ri,0)) 2 (some 2),iv 2,iv ((i+1:Nat):Int),y9] [] s'):
  WC E none (.loop KH) Q [y0,y1,.func f [] [],.ptr (some (p,0)),.ptr (some (p+1,0)),y5,.slice (some (ri,0)) 2 (some 2),iv 2,iv (i:Int),y9] [] S:=by
 have dd:decide ((i:Int)<2)=true:=decide_eq_true (by omega)
 have e1:=Aw (cap:=some 2) (i:=ri) (o:=0) (n:=2) Tryz.underlying254 CS (show i<2 from hi)
 have e17:=Bz Tryz.prog 3 (i:Int) 1 ⟨by omega,by omega⟩
 have e17':((i:Int)+1)=((i+1:Nat):Int):=by omega
 refine WC.loop' ?_
 generalize hW:WC E none (Aa.loop KH) Q=WW
 obtain⟨m1,o1,g1⟩:=Hi S ZI
 simp only[KH,UX,cJ,Rx,dd,e1,hel,ET,Xb,Qa,Qb,Qc,Qd,Qf,Qh,Qj,Qk,Qm,Qn,true_and,Qo,Qp,Qq,Qr,Qs,Qu,Qy,Ra,Rc,Rd,Rx]
 generalize hs1:newObj S ZI=s1 at *
 have st:=A8 (P:=Tryz.prog) (t:=79) (cs:=[.bool x1,.slice a1 n1 c1]) CS g1 rfl rfl rfl (by simp)
 generalize hs2:setObj s1 S.next (R 79 0 false [.bool x1,.slice a1 n1 c1])=s2 at st
 have o2:A9 S.next S s2:=by rw[← hs2];exact o1.set (tJ _) _
 have n2:s2.next=S.next+1:=by rw[← hs2];exact m1
 have k1:s2.heap.get p=some (BX x0 (.slice a0 n0 c0)):=(o2.2 p (by omega)).trans hb
 have k2:s2.heap.get S.next=some (R 79 0 false [.bool x1,.slice a1 n1 c1]):=by rw[← hs2,Wv]
 have l1:=Al (P:=Tryz.prog) (t:=79) ER CS k1 rfl
 have l2:=Al (P:=Tryz.prog) (t:=79) ER CS k2 rfl
 simp only[cK,st,l1,l2,Xx,Xz,Qb,Qc,Qd,Qe,Qf,Qh,Qj,Qk,Qm,Qn,true_and,Qq,Qr,Qs,Qu]
 refine hf s2 _ o2 fun s3 v3 o3 r3=>?_
 have k3:s3.heap.get p=some (BX x0 (.slice a0 n0 c0)):=(o3.2 p (by omega)).trans k1
 obtain⟨m3,rfl,r3'⟩:=r3
 obtain⟨a3,n3,c3,rfl⟩:=r3'.n32.shape
 have st3:=A8 (P:=Tryz.prog) (t:=79) (cs:=[.bool (decide (r<0)),.slice a3 n3 c3]) CS k3 rfl rfl rfl (by simp)
 simp only[st3,cL,e17,e17',Qb,Qc,Qd,Qf,Qh,Qi,Qj,Qk,Qm,Qn,true_and,Qo,Qp,Qq,Qr,Qs,Qu]
 rw[← hW]
 have h3:=o3.1
 refine hgo _ (decide (r<0)) a3 n3 c3 _ _ ?_ (fun j hj hne=>?_) (Wv _ _ _) (BR.mono (b:=s2.next) ⟨_,rfl,r3'.set (by omega) _⟩ (by omega))
 ·show S.next≤s3.next;omega
 ·rw[Ww _ hne,o3.2 j (by omega),o2.2 j hj]
theorem X0(hE:Ak E){f:FuncId}{v0 vx vy:AV}{z0 x y r:Int}{k0 kx ky ri:Nat}(h0:BI s v0 z0 k0)(hx:BI s vx x kx)(hy:BI s vy y ky){xc yc:List AV}(hxc:vx=.agg xc)(hyc:vy=.agg yc)(hri:ri<s.next)(hrow:s.heap.get ri=some (R 79 2 false (xc++yc)))
  (h1:∀ (s:AD) (va vb:AV) (K:AV→AD→Prop),BI s va z0 k0→BI s vb x kx→(∀s' v,A9 s.next s s'→BR s.next s' v x→K v s')→WF E f [va,vb] K s)
  (h2:∀ (s:AD) (va vb:AV) (K:AV→AD→Prop),BI s va x kx→BI s vb y ky→(∀s' v,A9 s.next s s'→BR s.next s' v r→K v s')→WF E f [va,vb] K s)
  {K:AV→AD→Prop} (hK:∀s' v,A9 s.next s s'→BR s.next s' v r→K v s'):WF E 214 [v0,.slice (some (ri,0)) 2 (some 2),.func f [] []] K s:=by
 have xabs:=hx.abs
 obtain⟨x0,a0,n0,c0,rfl⟩:=h0.shape
 obtain⟨x1,a1,m1,c1,e1⟩:=hx.shape
 obtain⟨x2,a2,m2,c2,e2⟩:=hy.shape
 rw[hxc]at e1;rw[hyc]at e2
 injection e1 with e1;injection e2 with e2
 subst e1;subst e2;subst hxc;subst hyc
 refine hE.go jo (by decide) rfl ?_
 obtain⟨n1,o1,g1,g2⟩:=OT s (BX x0 (.slice a0 n0 c0)) ZI
 simp only[qo,cH,cI,Wz,Xg,ET,Xb,Bd,AW Tryz.underlying254,Qa,Qb,Qc,Qd,Qf,Qh,Qi,Qj,Ql,Qm,Qn,true_and,Qo,Qp,Qq,Qr,Qs,Qu,Ra,Rg]
 generalize newObj (newObj s (BX x0 (.slice a0 n0 c0))) ZI=s1 at *
 have hr1:=(o1.2 ri hri).trans hrow
 have el0:AG Tryz.prog s1 79 (.ptr (some (ri,0+0 * 2)))=some (.agg [.bool x1,.slice a1 m1 c1]):=Bq (o:=0) (n:=2) ER CS hr1 (by simp)
 refine Ov (S:=s1) (p:=s.next) (i:=0) (by omega) (by omega) g1 el0 (fun s2 K2 o2 hk=>h1 s2 _ _ K2 (h0.old (o1.trans (o2.mono o1.1))) (hx.old (o1.trans (o2.mono o1.1))) hk) fun s2 x3 a3 n3 c3 y5 y9 q1 q2 q3 q4=>?_
 have o12:A9 s.next s s2:=⟨by have:=o1.1;omega,fun j hj=>by rw[q2 j (by omega) (by omega),o1.2 j hj]⟩
 have hr2:=(o12.2 ri hri).trans hrow
 have el1:AG Tryz.prog s2 79 (.ptr (some (ri,0+1 * 2)))=some (.agg [.bool x2,.slice a2 m2 c2]):=Bq (o:=2) (n:=2) ER CS hr2 (by simp)
 refine Ov (S:=s2) (p:=s.next) (i:=0+1) (by omega) (by omega) q3 el1 (fun s3 K3 o3 hk=>h2 s3 _ _ K3 ((q4.bi xabs).old o3) (hy.old (o12.trans (o3.mono o12.1))) hk) fun s3 x4 a4 n4 c4 y5 y9 w1 w2 w3 w4=>?_
 have o13:A9 s.next s s3:=⟨by have:=o12.1;omega,fun j hj=>by rw[w2 j (by have:=o12.1;omega) (by omega),o12.2 j hj]⟩
 have dd:decide (((0+1+1:Nat):Int)<2)=false:=rfl
 refine WC.loop' ?_
 have l1:=Al (P:=Tryz.prog) (t:=79) ER CS w3 rfl
 have g3:s3.heap.get (s.next+1)=some ZI:=by rw[w2 _ (by omega) (by omega),q2 _ (by omega) (by omega)];exact g2
 obtain⟨st,ld⟩:=GC (s1:=s) (x:=x4) (a:=a4) (n:=n4) (c:=c4) g3
 simp only[KH,UX,cM,Rx,dd,l1,st,ld,if_true,AX,Xx,Xz,Qa,Qb,Qc,Qd,Qf,Qh,Qj,Qk,Qm,Qn,true_and,Qo,Qp,Qq,Qr,Qs,Qu,Qz,Ra,Rc,Rd,Rf,Ri,Rj,Rm,Yc,Rx]
 exact hK _ _ (o13.set (by omega) _) ((w4.set (by omega) _).mono (by have:=o12.1;omega))
theorem Ki(x y:Bool)(a b:Option (Nat×Nat))(n m:Nat)(c d:Option Nat):An Tryz.prog 254 2 (zipIdx [0,1] [.agg [.bool x,.slice a n c],.agg [.bool y,.slice b m d]])=some (R 79 2 false [.bool x,.slice a n c,.bool y,.slice b m d]):=by kernel_rfl
theorem jE(s:AD):BI s (.agg [.bool false,.slice none 0 (some 0)]) 0 0:=⟨false,_,[],rfl,(NR.nil 0 s).n32,fun x hx=>(by cases hx),tJ _,rfl⟩
theorem jC(hE:Ak E){vx vy:AV}{x y:Int}{kx ky ri:Nat}(hx:BI s vx x kx)(hy:BI s vy y ky)(hk:kx+ky+1≤1000000000){xc yc:List AV}(hxc:vx=.agg xc)(hyc:vy=.agg yc)(hri:ri<s.next)(hrow:s.heap.get ri=some (R 79 2 false (xc++yc)))
  {K:AV→AD→Prop} (hK:∀s' v,A9 s.next s s'→BR s.next s' v (x+y)→K v s'):WF E 211 [.slice (some (ri,0)) 2 (some 2)] K s:=by
 refine hE.go jl (by decide) rfl ?_
 have hbz:GD Tryz.prog 79 (zipIdx [] [])=some (.agg [.bool false,.slice none 0 (some 0)]):=by kernel_rfl
 obtain⟨n1,o1,g1⟩:=Hi s ZI
 simp only[qj,bh,bj,ET,Xb,hbz,Qa,Qb,Qc,Qd,Qf,Qh,Qi,Qj,Qk,Ql,Qm,Qn,true_and,Qo,Qp,Qq,Qs,Qu,Ra,Rg,Ri]
 generalize newObj s ZI=s1 at *
 refine X0 hE (jE s1) (hx.old o1) (hy.old o1) hxc hyc (by omega) ((o1.2 ri hri).trans hrow) (r:=x+y)
  (fun s va vb K ha hb hk'=>SJ hE ha hb (by omega) (by rw[Int.zero_add];exact hk')) (fun s va vb K ha hb hk'=>SJ hE ha hb hk hk') fun s2 v2 o2 r2=>?_
 obtain⟨m2,rfl,q2⟩:=r2
 obtain⟨a2,n2,c2,rfl⟩:=q2.n32.shape
 obtain⟨st,ld⟩:=GC (s1:=s) (x:=decide (x+y<0)) (a:=a2) (n:=n2) (c:=c2) ((o2.2 s.next (by omega)).trans g1)
 simp only[st,ld,AX,Xx,Xz,Qd,Qj,Qm,Qn,true_and,Qq,Qr,Rj,Rm,Yc]
 exact hK _ _ ((o1.trans (o2.mono o1.1)).set (tJ _) _) (BR.mono (b:=s1.next) ⟨_,rfl,q2.set (by omega) _⟩ (by omega))
theorem V2(hE:Ak E){vx vy:AV}{x y:Int}{kx ky ri:Nat}(hx:BI s vx x kx)(hy:BI s vy y ky)(hk:kx+ky+1≤1000000000){xc yc:List AV}(hxc:vx=.agg xc)(hyc:vy=.agg yc)(hri:ri<s.next)(hrow:s.heap.get ri=some (R 79 2 false (xc++yc)))
  {K:AV→AD→Prop} (hK:∀s' v,A9 s.next s s'→BR s.next s' v (x * y)→K v s'):WF E 191 [.slice (some (ri,0)) 2 (some 2)] K s:=by
 refine hE.go ja (by decide) rfl ?_
 obtain⟨n1,o1,g1⟩:=Hi s ZI
 simp only[qT,aZ,ae,ET,Xb,Qa,Qb,Qc,Qd,Qf,Qh,Qi,Qj,Qk,Ql,Qm,Qn,true_and,Qo,Qp,Qs,Qu,Ra,Rg,Ri]
 generalize newObj s ZI=s1 at *
 refine SL hE (n:=1) (.inr (.inl rfl)) fun s2 v2 o2 r2=>?_
 have h12:=o1.trans (o2.mono o1.1)
 simp only[Qd,Qn,true_and,Qq]
 refine X0 hE (r2.bi (k:=1) (by decide)) (hx.old h12) (hy.old h12) hxc hyc (by have:=h12.1;omega) ((h12.2 ri hri).trans hrow) (r:=x * y)
  (fun s va vb K ha hb hk'=>SM hE ha hb (by omega) (by rw[Int.one_mul];exact hk')) (fun s va vb K ha hb hk'=>SM hE ha hb (by omega) hk') fun s3 v3 o3 r3=>?_
 have h2:=o2.1
 obtain⟨m3,rfl,q3⟩:=r3
 obtain⟨a3,n3,c3,rfl⟩:=q3.n32.shape
 obtain⟨st,ld⟩:=GC (s1:=s) (x:=decide (x * y<0)) (a:=a3) (n:=n3) (c:=c3) ((o3.2 s.next (by omega)).trans ((o2.2 s.next (by omega)).trans g1))
 simp only[st,ld,AX,Xx,Xz,Qd,Qj,Qm,Qn,true_and,Qq,Qr,Rj,Rm,Yc]
 exact hK _ _ ((h12.trans (o3.mono h12.1)).set (tJ _) _) (BR.mono (b:=s2.next) ⟨_,rfl,q3.set (by omega) _⟩ (by omega))
end
theorem Ve(z:Int):(z<0∧Lr z=-1)∨(z=0∧Lr z=0)∨(0<z∧Lr z=1):=by
  unfold Lr
  by_cases h1:z<0
  · exact .inl ⟨h1,if_pos h1⟩
  · by_cases h2 : 0 < z
    · exact .inr (.inr ⟨h2,by rw[if_neg h1,if_pos h2]⟩)
    · exact .inr (.inl ⟨by omega,by rw[if_neg h1,if_neg h2]⟩)
section
variable{E:Ck}{s:AD}
end
end
end Go.Proofs.YtoaaclpjkelofaaGreatDoor.Am
set_option linter.unusedVariables false
set_option linter.unusedSimpArgs false
set_option maxRecDepth 100000
namespace Go.Proofs.YtoaaclpjkelofaaGreatDoor.Am
open Go Go.Proofs
noncomputable section
theorem DG:A1 Tryz.prog 81=some 3:=by kernel_rfl
theorem GA:Ek Tryz.prog 81=some true:=by kernel_rfl
theorem M4(i o:Nat):AN Tryz.prog 81 (.ptr (some (i,o))) 0=some (.ptr (some (i,o+0))):=by kernel_rfl
theorem U1(i o:Nat):AN Tryz.prog 81 (.ptr (some (i,o))) 1=some (.ptr (some (i,o+2))):=by kernel_rfl
def au:List AB:=[
 ⟨none,.p1 some,[(.const (.slice none 0 (some 0)))],(.set 0),[]⟩]
def ay:List AB:=[
 ⟨none,.call 216,[(.const (.int .u64 (1)))],.push,[]⟩,
 ⟨none,.p1 some,[.loc 0],(.set 0),[]⟩]
def qV:Au:=⟨0,1,(.seq (.ops au) (.seq (.ops ay) .ret)),[((.var 0),none)]⟩
def aT:List AB:=[
 ⟨none,.mk (fun l=>match l with | [v]=>DD 79 v | _=>none),[.var 0],(.set 2),[]⟩,
 ⟨none,.mk (fun l=>match l with | []=>At Tryz.prog 81 | _=>none),[],(.set 3),[]⟩]
def aU:List AB:=[
 ⟨none,.p1 (fun x=>AN Tryz.prog 79 x 0),[.var 2],.push,[]⟩,
 ⟨none,.r1 (fun s a=>AG Tryz.prog s 4 a),[.loc 0],.push,[]⟩,
 ⟨none,.p1 (fun x=>AN Tryz.prog 79 x 1),[.var 2],.push,[]⟩,
 ⟨none,.r1 (fun s a=>AG Tryz.prog s 77 a),[.loc 0],.push,[]⟩,
 ⟨none,.call 181,[.loc 2,.loc 0],.push,[]⟩,
 ⟨none,.e (fun s=>Xx (fun a x=>Xz (AY Tryz.prog s 79 a x))),[.var 2,.loc 0],.push,[]⟩]
def aV:List AB:=[
 ⟨none,.p1 (fun x=>AN Tryz.prog 79 x 1),[.var 2],.push,[]⟩,
 ⟨none,.r1 (fun s a=>AG Tryz.prog s 77 a),[.loc 0],.push,[]⟩,
 ⟨none,.call 212,[.loc 0,.var 1],.push,[]⟩,
 ⟨none,.p1 some,[.loc 0],(.set 4),[]⟩]
def aW:List AB:=[
 ⟨none,.p1 (fun x=>AN Tryz.prog 79 x 1),[.var 2],.push,[]⟩,
 ⟨none,.r1 (fun s a=>AG Tryz.prog s 77 a),[.loc 0],.push,[]⟩,
 ⟨none,.call 213,[.loc 0,.var 4],.push,[]⟩,
 ⟨none,.p1 (fun x=>Za x 0),[.loc 0],.push,[]⟩,
 ⟨none,.p1 (fun x=>Za x 1),[.loc 1],.push,[]⟩,
 ⟨none,.p1 (fun x=>Za x 2),[.loc 2],.push,[]⟩,
 ⟨none,.p1 some,[.loc 2],(.set 5),[]⟩,
 ⟨none,.p1 some,[.loc 1],.push,[]⟩,
 ⟨none,.p1 some,[.loc 1],.push,[]⟩]
def aX:List AB:=[
 ⟨none,.call 213,[.var 1,.var 4],.push,[]⟩,
 ⟨none,.p1 (fun x=>Za x 0),[.loc 0],.push,[]⟩,
 ⟨none,.p1 (fun x=>Za x 1),[.loc 1],.push,[]⟩,
 ⟨none,.p1 (fun x=>Za x 2),[.loc 2],.push,[]⟩,
 ⟨none,.p1 some,[.loc 2],(.set 6),[]⟩,
 ⟨none,.p1 some,[.loc 1],.push,[]⟩,
 ⟨none,.p1 some,[.loc 1],.push,[]⟩]
def aY:List AB:=[
 ⟨none,.p1 (fun x=>AN Tryz.prog 79 x 0),[.var 2],.push,[]⟩,
 ⟨none,.r1 (fun s a=>AG Tryz.prog s 4 a),[.loc 0],.push,[]⟩,
 ⟨none,.call 181,[.loc 0,.var 5],.push,[]⟩,
 ⟨none,.p (fun l=>GD Tryz.prog 81 (zipIdx [0,1] l)),[.loc 0,.var 6],.push,[]⟩,
 ⟨none,.e (fun s=>Xx (fun a x=>Xz (AY Tryz.prog s 81 a x))),[.var 3,.loc 0],.push,[]⟩]
def qS:Au:=⟨2,7,(.seq (.ops aT) (.seq (.ops aU) (.seq (.ops aV) (.seq (.ops aW) (.seq (.ops aX) (.seq (.ops aY) .ret)))))),[((.var 3),some 81)]⟩
def aP:List AB:=[
 ⟨none,.mk (fun l=>match l with | [v]=>DD 81 v | _=>none),[.var 0],(.set 1),[]⟩,
 ⟨none,.mk (fun l=>match l with | []=>At Tryz.prog 81 | _=>none),[],(.set 2),[]⟩]
def aQ:List AB:=[
 ⟨none,.p1 (fun x=>AN Tryz.prog 81 x 1),[.var 1],.push,[]⟩,
 ⟨none,.r1 (fun s a=>AG Tryz.prog s 77 a),[.loc 0],.push,[]⟩,
 ⟨none,.call 202,[.loc 0],.push,[]⟩,
 ⟨none,.p1 some,[.loc 0],(.set 3),[]⟩]
def UK:List AB:=[
 ⟨none,.r (fun s l=>match l with | [x]=>Bb Tryz.prog s 77 x | _=>none),[.var 3],.push,[]⟩,
 ⟨none,.p2 (AP Tryz.prog .eql 3),[(.loc 0),(.const (.int .i64 (0)))],(.set 4),[]⟩]
def aR:List AB:=[
 ⟨none,.call 193,[],.push,[]⟩,
 ⟨none,.p1 some,[.loc 0],(.set 3),[]⟩]
def UL:List AB:=[
 ⟨none,.p1 (fun x=>AN Tryz.prog 81 x 0),[.var 1],.push,[]⟩,
 ⟨none,.r1 (fun s a=>AG Tryz.prog s 79 a),[.loc 0],.push,[]⟩,
 ⟨none,.call 190,[.loc 0,.var 3],.push,[]⟩,
 ⟨none,.e (fun s=>Xx (fun a x=>Xz (AY Tryz.prog s 81 a x))),[.var 2,.loc 0],.push,[]⟩]
def qR:Au:=⟨1,5,(.seq (.ops aP) (.seq (.ops aQ) (.seq (.seq (.ops UK) (.cond (.var 4)
 (.ops aR)
 .skip)) (.seq (.ops UL) .ret)))),[((.var 2),some 81)]⟩
def cY:List AB:=[
 ⟨none,.mk (fun l=>match l with | [v]=>DD 81 v | _=>none),[.var 0],(.set 2),[]⟩,
 ⟨none,.mk (fun l=>match l with | []=>At Tryz.prog 81 | _=>none),[],(.set 3),[]⟩]
def cZ:List AB:=[
 ⟨none,.r1 (fun s a=>AG Tryz.prog s 81 a),[.var 2],.push,[]⟩,
 ⟨none,.call 189,[.loc 0],.push,[]⟩,
 ⟨none,.callv,[.var 1,.loc 0],.push,[]⟩,
 ⟨none,.e (fun s=>Xx (fun a x=>Xz (AY Tryz.prog s 81 a x))),[.var 3,.loc 0],.push,[]⟩]
def qu:Au:=⟨2,4,(.seq (.ops cY) (.seq (.ops cZ) .ret)),[((.var 3),some 81)]⟩
def bX:List AB:=[
 ⟨none,.mk (fun l=>match l with | [v]=>DD 81 v | _=>none),[.var 0],(.set 3),[]⟩,
 ⟨none,.mk (fun l=>match l with | [v]=>DD 81 v | _=>none),[.var 1],(.set 4),[]⟩,
 ⟨none,.mk (fun l=>match l with | [v]=>DD 250 v | _=>none),[.var 2],(.set 5),[]⟩,
 ⟨none,.mk (fun l=>match l with | []=>At Tryz.prog 81 | _=>none),[],(.set 6),[]⟩]
def bY:List AB:=[
 ⟨none,.r1 (fun s a=>AG Tryz.prog s 81 a),[.var 3],.push,[]⟩,
 ⟨none,.p (fun l=>some (.func 229 (l.take 0) (l.drop 0))),[.var 4,.var 5],.push,[]⟩,
 ⟨none,.call 228,[.loc 1,.loc 0],.push,[]⟩,
 ⟨none,.e (fun s=>Xx (fun a x=>Xz (AY Tryz.prog s 81 a x))),[.var 6,.loc 0],.push,[]⟩]
def qd:Au:=⟨3,7,(.seq (.ops bX) (.seq (.ops bY) .ret)),[((.var 6),some 81)]⟩
def ce:List AB:=[
 ⟨none,.mk (fun l=>match l with | [v]=>DD 81 v | _=>none),[.var 0],(.set 3),[]⟩,
 ⟨none,.mk (fun l=>match l with | []=>At Tryz.prog 81 | _=>none),[],(.set 4),[]⟩]
def cg:List AB:=[
 ⟨none,.r1 (fun s a=>AG Tryz.prog s 81 a),[.var 1],.push,[]⟩,
 ⟨none,.p (fun l=>some (.func 230 (l.take 0) (l.drop 0))),[.var 2,.var 3],.push,[]⟩,
 ⟨none,.call 228,[.loc 1,.loc 0],.push,[]⟩,
 ⟨none,.e (fun s=>Xx (fun a x=>Xz (AY Tryz.prog s 81 a x))),[.var 4,.loc 0],.push,[]⟩]
def qv:Au:=⟨3,5,(.seq (.ops ce) (.seq (.ops cg) .ret)),[((.var 4),some 81)]⟩
def ck:List AB:=[
 ⟨none,.mk (fun l=>match l with | [v]=>DD 81 v | _=>none),[.var 0],(.set 3),[]⟩,
 ⟨none,.mk (fun l=>match l with | []=>At Tryz.prog 81 | _=>none),[],(.set 4),[]⟩]
def cl:List AB:=[
 ⟨none,.p1 some,[(.const (.func 231 [] []))],(.set 5),[]⟩]
def cm:List AB:=[
 ⟨none,.r1 (fun s a=>AG Tryz.prog s 250 a),[.var 1],.push,[]⟩,
 ⟨none,.p1 (fun x=>AN Tryz.prog 81 x 0),[.var 2],.push,[]⟩,
 ⟨none,.r1 (fun s a=>AG Tryz.prog s 79 a),[.loc 0],.push,[]⟩,
 ⟨none,.p1 (fun x=>AN Tryz.prog 81 x 1),[.var 3],.push,[]⟩,
 ⟨none,.r1 (fun s a=>AG Tryz.prog s 77 a),[.loc 0],.push,[]⟩,
 ⟨none,.p1 (fun x=>AN Tryz.prog 81 x 0),[.var 3],.push,[]⟩,
 ⟨none,.r1 (fun s a=>AG Tryz.prog s 79 a),[.loc 0],.push,[]⟩,
 ⟨none,.p1 (fun x=>AN Tryz.prog 81 x 1),[.var 2],.push,[]⟩,
 ⟨none,.r1 (fun s a=>AG Tryz.prog s 77 a),[.loc 0],.push,[]⟩,
 ⟨none,.p1 (fun x=>AN Tryz.prog 81 x 1),[.var 2],.push,[]⟩,
 ⟨none,.r1 (fun s a=>AG Tryz.prog s 77 a),[.loc 0],.push,[]⟩,
 ⟨none,.p1 (fun x=>AN Tryz.prog 81 x 1),[.var 3],.push,[]⟩,
 ⟨none,.r1 (fun s a=>AG Tryz.prog s 77 a),[.loc 0],.push,[]⟩,
 ⟨none,.callv,[.var 5,.loc 10,.loc 8],.push,[⟨none,.r1 (fun s a=>AG Tryz.prog s 77 a),[.loc 2],(.loc 1)⟩,⟨none,.r1 (fun s a=>AG Tryz.prog s 77 a),[.loc 4],(.loc 3)⟩,⟨none,.r1 (fun s a=>AG Tryz.prog s 77 a),[.loc 6],(.loc 5)⟩,⟨none,.r1 (fun s a=>AG Tryz.prog s 79 a),[.loc 8],(.loc 7)⟩,⟨none,.r1 (fun s a=>AG Tryz.prog s 250 a),[.var 1],(.loc 13)⟩]⟩,
 ⟨none,.callv,[.var 5,.loc 7,.loc 5],.push,[⟨none,.r1 (fun s a=>AG Tryz.prog s 77 a),[.loc 3],(.loc 2)⟩,⟨none,.r1 (fun s a=>AG Tryz.prog s 77 a),[.loc 5],(.loc 4)⟩,⟨none,.r1 (fun s a=>AG Tryz.prog s 250 a),[.var 1],(.loc 14)⟩]⟩,
 ⟨none,.call 192,[.loc 4,.loc 2],.push,[⟨none,.r1 (fun s a=>AG Tryz.prog s 250 a),[.var 1],(.loc 15)⟩]⟩,
 ⟨none,.callv,[.loc 15,.loc 2,.loc 1,.loc 0],.push,[]⟩,
 ⟨none,.e (fun s=>Xx (fun a x=>Xz (AY Tryz.prog s 81 a x))),[.var 4,.loc 0],.push,[]⟩]
def qw:Au:=⟨3,6,(.seq (.ops ck) (.seq (.ops cl) (.seq (.ops cm) .ret))),[((.var 4),some 81)]⟩
def cn:List AB:=[
 ⟨none,.mk (fun l=>match l with | [v]=>DD 79 v | _=>none),[.var 0],(.set 2),[]⟩,
 ⟨none,.mk (fun l=>match l with | []=>At Tryz.prog 79 | _=>none),[],(.set 3),[]⟩]
def co:List AB:=[
 ⟨none,.r1 (fun s a=>AG Tryz.prog s 79 a),[.var 2],.push,[]⟩,
 ⟨none,.call 181,[(.const (.bool false)),(.var 1)],.push,[⟨none,.r1 (fun s a=>AG Tryz.prog s 79 a),[.var 2],(.loc 1)⟩]⟩,
 ⟨none,.mk (fun l=>(An Tryz.prog 254 2 (zipIdx [0,1] l)).bind fun r=>some (r,.slice 2)),[.loc 1,.loc 0],.push,[]⟩,
 ⟨none,.call 191,[.loc 0],.push,[]⟩,
 ⟨none,.e (fun s=>Xx (fun a x=>Xz (AY Tryz.prog s 79 a x))),[.var 3,.loc 0],.push,[]⟩]
def qx:Au:=⟨2,4,(.seq (.ops cn) (.seq (.ops co) .ret)),[((.var 3),some 79)]⟩
def aI:List AB:=[
 ⟨none,.mk (fun l=>match l with | []=>At Tryz.prog 81 | _=>none),[],(.set 1),[]⟩]
def aJ:List AB:=[
 ⟨none,.r1 (fun s a=>AG Tryz.prog s 81 a),[.var 1],.push,[]⟩,
 ⟨none,.call 189,[.loc 0],.push,[]⟩,
 ⟨none,.e (fun s=>Xx (fun a x=>Xz (AY Tryz.prog s 81 a x))),[.var 1,.loc 0],.push,[]⟩]
def aK:List AB:=[
 ⟨none,.p1 some,[.var 0],(.set 3),[]⟩,
 ⟨none,.r (fun s l=>match l with | [x]=>Bb Tryz.prog s 82 x | _=>none),[.var 3],(.set 4),[]⟩,
 ⟨none,.p1 some,[(.const (.int .i64 (0)))],(.set 5),[]⟩]
def UJ:List AB:=[
 ⟨none,.p2 (AP Tryz.prog .lss 3),[.var 5,.var 4],(.set 6),[]⟩]
def aL:List AB:=[
 ⟨none,.p2 (AR Tryz.prog 82),[.var 3,.var 5],.push,[]⟩,
 ⟨none,.r1 (fun s a=>AG Tryz.prog s 81 a),[.loc 0],.push,[]⟩,
 ⟨none,.mk (fun l=>match l with | []=>At Tryz.prog 81 | _=>none),[],(.set 2),[]⟩,
 ⟨none,.e (fun s=>Xx (fun a x=>Xz (AY Tryz.prog s 81 a x))),[.var 2,.loc 0],.push,[]⟩]
def aM:List AB:=[
 ⟨none,.r1 (fun s a=>AG Tryz.prog s 81 a),[.var 1],.push,[]⟩,
 ⟨none,.r1 (fun s a=>AG Tryz.prog s 81 a),[.var 2],.push,[]⟩,
 ⟨none,.call 209,[(.loc 1),(.loc 0),(.const (.func 210 [] []))],.push,[]⟩,
 ⟨none,.e (fun s=>Xx (fun a x=>Xz (AY Tryz.prog s 81 a x))),[.var 1,.loc 0],.push,[]⟩]
def aN:List AB:=[
 ⟨none,.p2 (AP Tryz.prog .add 3),[(.var 5),(.const (.int .i64 (1)))],.push,[]⟩,
 ⟨none,.p1 some,[.loc 0],(.set 5),[]⟩]
def KE:Aa:=(.seq (.ops UJ) (.seq (.cond (.var 6)
 .skip
 (.exit 0)) (.seq (.block 1 (.seq (.ops aL) (.ops aM))) (.ops aN))))
def aO:List AB:=[
 ⟨none,.r1 (fun s a=>AG Tryz.prog s 81 a),[.var 1],.push,[]⟩,
 ⟨none,.e (fun s=>Xx (fun a x=>Xz (AY Tryz.prog s 81 a x))),[.var 1,.loc 0],.push,[]⟩]
def qQ:Au:=⟨1,7,(.seq (.ops aI) (.seq (.ops aJ) (.seq (.seq (.ops aK) (.block 0 (.loop KE))) (.seq (.ops aO) .ret)))),[((.var 1),some 81)]⟩
def bZ:List AB:=[
 ⟨none,.mk (fun l=>match l with | [v]=>DD 79 v | _=>none),[.var 0],(.set 3),[]⟩,
 ⟨none,.mk (fun l=>match l with | [v]=>DD 79 v | _=>none),[.var 1],(.set 4),[]⟩,
 ⟨none,.mk (fun l=>match l with | []=>At Tryz.prog 81 | _=>none),[],(.set 5),[]⟩]
def be:List AB:=[
 ⟨none,.r1 (fun s a=>AG Tryz.prog s 79 a),[.var 3],.push,[]⟩,
 ⟨none,.r1 (fun s a=>AG Tryz.prog s 79 a),[.var 4],.push,[]⟩,
 ⟨none,.mk (fun l=>(An Tryz.prog 254 2 (zipIdx [0,1] l)).bind fun r=>some (r,.slice 2)),[.loc 1,.loc 0],.push,[]⟩,
 ⟨none,.call 211,[.loc 0],.push,[]⟩,
 ⟨none,.call 190,[.loc 0,.var 2],.push,[]⟩,
 ⟨none,.e (fun s=>Xx (fun a x=>Xz (AY Tryz.prog s 81 a x))),[.var 5,.loc 0],.push,[]⟩]
def qf:Au:=⟨3,6,(.seq (.ops bZ) (.seq (.ops be) .ret)),[((.var 5),some 81)]⟩
def Zx:List AB:=[
 ⟨none,.mk (fun l=>match l with | [v]=>DD 81 v | _=>none),[.var 0],(.set 2),[]⟩,
 ⟨none,.mk (fun l=>match l with | [v]=>DD 81 v | _=>none),[.var 1],(.set 3),[]⟩,
 ⟨none,.mk (fun l=>match l with | []=>At Tryz.prog 81 | _=>none),[],(.set 4),[]⟩]
def Zy:List AB:=[
 ⟨none,.r1 (fun s a=>AG Tryz.prog s 81 a),[.var 2],.push,[]⟩,
 ⟨none,.r1 (fun s a=>AG Tryz.prog s 81 a),[.var 3],.push,[]⟩,
 ⟨none,.mk (fun l=>(An Tryz.prog 82 2 (zipIdx [0,1] l)).bind fun r=>some (r,.slice 2)),[.loc 1,.loc 0],.push,[]⟩,
 ⟨none,.call 188,[.loc 0],.push,[]⟩,
 ⟨none,.e (fun s=>Xx (fun a x=>Xz (AY Tryz.prog s 81 a x))),[.var 4,.loc 0],.push,[]⟩]
def qL:Au:=⟨2,5,(.seq (.ops Zx) (.seq (.ops Zy) .ret)),[((.var 4),some 81)]⟩
def Zz:List AB:=[
 ⟨none,.mk (fun l=>match l with | [v]=>DD 81 v | _=>none),[.var 0],(.set 2),[]⟩,
 ⟨none,.mk (fun l=>match l with | [v]=>DD 81 v | _=>none),[.var 1],(.set 3),[]⟩,
 ⟨none,.mk (fun l=>match l with | []=>At Tryz.prog 81 | _=>none),[],(.set 4),[]⟩]
def Z0:List AB:=[
 ⟨none,.r1 (fun s a=>AG Tryz.prog s 81 a),[.var 2],.push,[]⟩,
 ⟨none,.r1 (fun s a=>AG Tryz.prog s 81 a),[.var 3],.push,[]⟩,
 ⟨none,.call 189,[.loc 1],.push,[⟨none,.r1 (fun s a=>AG Tryz.prog s 81 a),[.var 3],(.loc 1)⟩]⟩,
 ⟨none,.call 189,[.loc 1],.push,[]⟩,
 ⟨none,.e (fun s=>Xx (fun a x=>Xz (AY Tryz.prog s 81 a x))),[.var 2,.loc 1],.push,[]⟩,
 ⟨none,.e (fun s=>Xx (fun a x=>Xz (AY Tryz.prog s 81 a x))),[.var 3,.loc 1],.push,[]⟩]
def Z1:List AB:=[
 ⟨none,.p1 (fun x=>AN Tryz.prog 81 x 0),[.var 2],.push,[]⟩,
 ⟨none,.r1 (fun s a=>AG Tryz.prog s 79 a),[.loc 0],.push,[]⟩,
 ⟨none,.p1 (fun x=>AN Tryz.prog 81 x 0),[.var 3],.push,[]⟩,
 ⟨none,.r1 (fun s a=>AG Tryz.prog s 79 a),[.loc 0],.push,[]⟩,
 ⟨none,.mk (fun l=>(An Tryz.prog 254 2 (zipIdx [0,1] l)).bind fun r=>some (r,.slice 2)),[.loc 2,.loc 0],.push,[]⟩,
 ⟨none,.p1 (fun x=>AN Tryz.prog 81 x 1),[.var 2],.push,[]⟩,
 ⟨none,.r1 (fun s a=>AG Tryz.prog s 77 a),[.loc 0],.push,[]⟩,
 ⟨none,.p1 (fun x=>AN Tryz.prog 81 x 1),[.var 3],.push,[]⟩,
 ⟨none,.r1 (fun s a=>AG Tryz.prog s 77 a),[.loc 0],.push,[]⟩,
 ⟨none,.call 191,[.loc 4],.push,[⟨none,.r1 (fun s a=>AG Tryz.prog s 77 a),[.loc 2],(.loc 1)⟩,⟨none,.r1 (fun s a=>AG Tryz.prog s 77 a),[.loc 4],(.loc 3)⟩]⟩,
 ⟨none,.call 192,[.loc 3,.loc 1],.push,[]⟩,
 ⟨none,.call 190,[.loc 1,.loc 0],.push,[]⟩,
 ⟨none,.e (fun s=>Xx (fun a x=>Xz (AY Tryz.prog s 81 a x))),[.var 4,.loc 0],.push,[]⟩]
def qM:Au:=⟨2,5,(.seq (.ops Zz) (.seq (.ops Z0) (.seq (.ops Z1) .ret))),[((.var 4),some 81)]⟩
def az:List AB:=[
 ⟨none,.mk (fun l=>match l with | [v]=>DD 81 v | _=>none),[.var 0],(.set 1),[]⟩,
 ⟨none,.p1 some,[(.const (.int .i64 (0)))],(.set 2),[]⟩]
def bA:List AB:=[
 ⟨none,.p1 (fun x=>AN Tryz.prog 81 x 0),[.var 1],.push,[]⟩,
 ⟨none,.r1 (fun s a=>AG Tryz.prog s 79 a),[.loc 0],.push,[]⟩,
 ⟨none,.call 218,[.loc 0],.push,[]⟩,
 ⟨none,.p1 some,[.loc 0],(.set 2),[]⟩]
def qW:Au:=⟨1,3,(.seq (.ops az) (.seq (.ops bA) .ret)),[((.var 2),none)]⟩
def Zv:List AB:=[
 ⟨none,.mk (fun l=>match l with | []=>At Tryz.prog 81 | _=>none),[],(.set 1),[]⟩]
def Zw:List AB:=[
 ⟨none,.call 167,[.var 0],.push,[]⟩,
 ⟨none,.call 166,[.loc 0],.push,[]⟩,
 ⟨none,.e (fun s=>Xx (fun a x=>Xz (AY Tryz.prog s 81 a x))),[.var 1,.loc 0],.push,[]⟩]
def qK:Au:=⟨1,2,(.seq (.ops Zv) (.seq (.ops Zw) .ret)),[((.var 1),some 81)]⟩
def Z2:List AB:=[
 ⟨none,.mk (fun l=>match l with | [v]=>DD 79 v | _=>none),[.var 0],(.set 1),[]⟩,
 ⟨none,.mk (fun l=>match l with | []=>At Tryz.prog 81 | _=>none),[],(.set 2),[]⟩]
def Z3:List AB:=[
 ⟨none,.r1 (fun s a=>AG Tryz.prog s 79 a),[.var 1],.push,[]⟩,
 ⟨none,.call 193,[],.push,[⟨none,.r1 (fun s a=>AG Tryz.prog s 79 a),[.var 1],(.loc 1)⟩]⟩,
 ⟨none,.call 190,[.loc 1,.loc 0],.push,[]⟩,
 ⟨none,.e (fun s=>Xx (fun a x=>Xz (AY Tryz.prog s 81 a x))),[.var 2,.loc 0],.push,[]⟩]
def qN:Au:=⟨1,3,(.seq (.ops Z2) (.seq (.ops Z3) .ret)),[((.var 2),some 81)]⟩
theorem jc:AS Tryz.prog 193=some qV:=by kernel_rfl
theorem jZ:AS Tryz.prog 190=some qS:=by kernel_rfl
theorem jY:AS Tryz.prog 189=some qR:=by kernel_rfl
theorem js:AS Tryz.prog 228=some qu:=by kernel_rfl
theorem jh:AS Tryz.prog 209=some qd:=by kernel_rfl
theorem ju:AS Tryz.prog 229=some qv:=by kernel_rfl
theorem jv:AS Tryz.prog 230=some qw:=by kernel_rfl
theorem jw:AS Tryz.prog 231=some qx:=by kernel_rfl
theorem jX:AS Tryz.prog 188=some qQ:=by kernel_rfl
theorem jj:AS Tryz.prog 210=some qf:=by kernel_rfl
theorem jR:AS Tryz.prog 162=some qL:=by kernel_rfl
theorem jS:AS Tryz.prog 163=some qM:=by kernel_rfl
theorem jd:AS Tryz.prog 196=some qW:=by kernel_rfl
theorem jQ:AS Tryz.prog 130=some qK:=by kernel_rfl
theorem jT:AS Tryz.prog 166=some qN:=by kernel_rfl
end
end Go.Proofs.YtoaaclpjkelofaaGreatDoor.Am
