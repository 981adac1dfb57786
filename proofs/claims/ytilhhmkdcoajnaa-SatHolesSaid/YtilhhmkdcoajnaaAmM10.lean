/- The compiled code of the solver's function drop, printed by a program of ours (dev/Print.lean) and checked by the kernel; conditions: none. -/
import Derived.Test.YtilhhmkdcoajnaaAmM05
import Derived.Test.YtilhhmkdcoajnaaAmM09
import Derived.Test.YtilhhmkdcoajnaaAmM08
import Derived.Test.YtilhhmkdcoajnaaAmM07
set_option linter.unusedVariables false
set_option linter.unusedSimpArgs false
namespace Go.Proofs.Ytilhhmkdcoajnaa.Am
open Go Go.Proofs
noncomputable section
def du:List AA:=[
 ⟨none,.p1 some,[(.const (.slice none 0 (some 0)))],(.set 2),[]⟩]
def dv:List AA:=[
 ⟨none,.call 112,[.var 0,.var 1],.push,[]⟩,
 ⟨none,.p1 some,[.loc 0],(.set 3),[]⟩]
def XJ:List AA:=[
 ⟨none,.p2 (AM Try.prog .eql 3),[(.var 3),(.const (.int .i64 (-1)))],(.set 6),[]⟩]
def dw:List AA:=[
 ⟨none,.p1 some,[.var 0],(.set 2),[]⟩]
def dx:List AA:=[
 ⟨none,.p2 (AM Try.prog .add 3),[(.var 3),(.const (.int .i64 (1)))],.push,[]⟩,
 ⟨none,.p1 some,[.loc 0],(.set 4),[]⟩]
def XK:List AA:=[
 ⟨none,.r (fun s l=>match l with | [x]=>A6 Try.prog s 89 x | _=>none),[.var 0],.push,[]⟩,
 ⟨none,.p2 (AM Try.prog .lss 3),[.var 4,.loc 0],(.set 7),[]⟩]
def dy:List AA:=[
 ⟨none,.p2 (AD Try.prog 89),[.var 0,.var 4],.push,[]⟩,
 ⟨none,.r1 (fun s a=>AC Try.prog s 92 a),[.loc 0],.push,[]⟩,
 ⟨none,.p1 some,[.loc 0],(.set 5),[]⟩]
def dz:List AA:=[
 ⟨none,.callv,[.var 1,.var 5],.push,[]⟩,
 ⟨none,.p1 (G3 Try.prog Go.UnOp.not),[.loc 0],(.set 8),[]⟩]
def d6:List AA:=[
 ⟨none,.p2 (AD Try.prog 89),[.var 0,.var 3],.push,[]⟩,
 ⟨none,.e (fun s=>BU (fun a x=>AX (AN Try.prog s 92 a x))),[.loc 0,.var 5],.push,[]⟩]
def d7:List AA:=[
 ⟨none,.p1 some,[.var 3],.push,[]⟩,
 ⟨none,.p2 (AM Try.prog .add 3),[(.loc 0),(.const (.int .i64 (1)))],.push,[]⟩,
 ⟨none,.p1 some,[.loc 0],(.set 3),[]⟩]
def RD:List AA:=[
 ⟨none,.p1 some,[.var 4],.push,[]⟩,
 ⟨none,.p2 (AM Try.prog .add 3),[(.loc 0),(.const (.int .i64 (1)))],.push,[]⟩,
 ⟨none,.p1 some,[.loc 0],(.set 4),[]⟩]
def Kf:Aa:=(.seq (.seq (.ops XK) (.cond (.var 7)
 .skip
 (.exit 0))) (.seq (.block 1 (.seq (.ops dy) (.seq (.ops dz) (.cond (.var 8)
 (.seq (.ops d6) (.ops d7))
 .skip)))) (.ops RD)))
def XH:List AA:=[
 ⟨none,.r (Ai Try.prog 89 true false false),[.var 0,.var 3],.push,[]⟩,
 ⟨none,.e (fun s l=>DO Try.prog s [89] l),[.loc 0],.push,[]⟩]
def XI:List AA:=[
 ⟨none,.r (Ai Try.prog 89 false true false),[.var 0,.var 3],.push,[]⟩,
 ⟨none,.p1 some,[.loc 0],(.set 2),[]⟩]
def ki:As:=⟨2,9,(.seq (.ops du) (.seq (.ops dv) (.seq (.seq (.ops XJ) (.cond (.var 6)
 (.seq (.ops dw) .ret)
 .skip)) (.seq (.seq (.ops dx) (.block 0 (.loop Kf))) (.seq (.ops XH) (.seq (.ops XI) .ret)))))),[((.var 2),none)]⟩
def d8:List AA:=[
 ⟨none,.mk (fun l=>match l with | [v]=>DD 92 v | _=>none),[.var 0],(.set 3),[]⟩,
 ⟨none,.p1 some,[(.const (.bool false))],(.set 4),[]⟩]
def d9:List AA:=[
 ⟨none,.r1 (fun s a=>AC Try.prog s 92 a),[.var 3],.push,[]⟩,
 ⟨none,.p1 AE,[.loc 0],.push,[]⟩,
 ⟨none,.p1 (fun x=>AB Try.prog 104 x 0),[.loc 0],.push,[]⟩,
 ⟨none,.r1 (fun s a=>AC Try.prog s 23 a),[.loc 0],.push,[]⟩,
 ⟨none,.p (fun l=>some (.func 98 (l.take 0) (l.drop 0))),[.var 1,.var 3],.push,[]⟩,
 ⟨none,.call 72,[.loc 1,.loc 0],.push,[]⟩,
 ⟨none,.p1 some,[.loc 0],(.set 5),[]⟩]
def eA:List AA:=[
 ⟨none,.r1 (fun s a=>AC Try.prog s 3 a),[.var 2],.push,[]⟩,
 ⟨none,.p2 (AM Try.prog .add 3),[(.loc 0),(.const (.int .i64 (1)))],.push,[]⟩,
 ⟨none,.e (fun s=>BU (fun a x=>AX (AN Try.prog s 3 a x))),[.var 2,.loc 0],.push,[]⟩]
def XL:List AA:=[
 ⟨none,.r1 (fun s a=>AC Try.prog s 92 a),[.var 3],.push,[]⟩,
 ⟨none,.r1 (fun s a=>AC Try.prog s 3 a),[.var 2],.push,[]⟩,
 ⟨none,.p2 (AM Try.prog .rem 3),[(.loc 0),(.const (.int .i64 (2)))],.push,[]⟩,
 ⟨none,.p2 (AM Try.prog .eql 3),[(.loc 0),(.const (.int .i64 (0)))],.push,[]⟩,
 ⟨(some ((.loc 0),true)),.r1 (fun s a=>AC Try.prog s 92 a),[.var 3],.push,[]⟩,
 ⟨(some ((.loc 1),true)),.p1 AE,[.loc 0],.push,[]⟩,
 ⟨(some ((.loc 2),true)),.p1 (fun x=>AB Try.prog 104 x 0),[.loc 0],.push,[]⟩,
 ⟨(some ((.loc 3),true)),.r1 (fun s a=>AC Try.prog s 23 a),[.loc 0],.push,[]⟩,
 ⟨(some ((.loc 4),true)),.r (fun s l=>match l with | [x]=>A6 Try.prog s 23 x | _=>none),[.loc 0],.push,[]⟩,
 ⟨(some ((.loc 5),true)),.p2 (AM Try.prog .gtr 3),[(.loc 0),(.const (.int .i64 (2)))],.push,[]⟩,
 ⟨none,.p Rn,[(.loc 6),(.loc 0),(.const (.bool false))],.push,[]⟩,
 ⟨(some ((.loc 0),true)),.p1 some,[.var 5],.push,[]⟩,
 ⟨(some ((.loc 1),true)),.p1 (G3 Try.prog Go.UnOp.not),[.loc 0],.push,[]⟩,
 ⟨none,.p Rn,[(.loc 2),(.loc 0),(.const (.bool false))],.push,[]⟩,
 ⟨none,.p1 AE,[.loc 13],.push,[]⟩,
 ⟨none,.p1 (fun x=>AB Try.prog 104 x 2),[.loc 0],.push,[]⟩,
 ⟨none,.e (fun s=>BU (fun a x=>AX (AN Try.prog s 4 a x))),[.loc 0,.loc 2],.push,[]⟩]
def XM:List AA:=[
 ⟨none,.r1 (fun s a=>AC Try.prog s 92 a),[.var 3],.push,[]⟩,
 ⟨none,.p1 AE,[.loc 0],.push,[]⟩,
 ⟨none,.p1 (fun x=>AB Try.prog 104 x 2),[.loc 0],.push,[]⟩,
 ⟨none,.r1 (fun s a=>AC Try.prog s 4 a),[.loc 0],(.set 6),[]⟩]
def eB:List AA:=[
 ⟨none,.r1 (fun s a=>AC Try.prog s 44 a),[.var 1],.push,[]⟩,
 ⟨none,.r1 (fun s a=>AC Try.prog s 44 a),[.var 1],.push,[]⟩,
 ⟨none,.p1 AE,[.loc 0],.push,[]⟩,
 ⟨none,.p1 (fun x=>AB Try.prog 91 x 12),[.loc 0],.push,[]⟩,
 ⟨none,.r1 (fun s a=>AC Try.prog s 33 a),[.loc 0],.push,[]⟩,
 ⟨none,.r1 (fun s a=>AC Try.prog s 92 a),[.var 3],.push,[]⟩,
 ⟨none,.p1 AE,[.loc 0],.push,[]⟩,
 ⟨none,.p1 (fun x=>AB Try.prog 104 x 0),[.loc 0],.push,[]⟩,
 ⟨none,.r1 (fun s a=>AC Try.prog s 23 a),[.loc 0],.push,[]⟩,
 ⟨none,.call 60,[.loc 0],.push,[⟨none,.r1 (fun s a=>AC Try.prog s 33 a),[.loc 6],(.loc 5)⟩,⟨none,.r1 (fun s a=>AC Try.prog s 44 a),[.var 1],(.loc 8)⟩,⟨none,.r1 (fun s a=>AC Try.prog s 44 a),[.var 1],(.loc 9)⟩]⟩,
 ⟨none,.p (fun l=>Bw Try.prog 27 (zipIdx [0,1] l)),[(.const (.bool true)),(.loc 0)],.push,[]⟩,
 ⟨none,.mk (fun l=>(Ab Try.prog 33 1 (zipIdx [0] l)).bind fun r=>some (r,.slice 1)),[.loc 0],.push,[]⟩,
 ⟨none,.e (fun s l=>Ad Try.prog s [33,33] l),[.loc 7,.loc 0],.push,[⟨none,.r1 (fun s a=>AC Try.prog s 44 a),[.var 1],(.loc 12)⟩]⟩,
 ⟨none,.p1 AE,[.loc 12],.push,[]⟩,
 ⟨none,.p1 (fun x=>AB Try.prog 91 x 12),[.loc 0],.push,[]⟩,
 ⟨none,.e (fun s=>BU (fun a x=>AX (AN Try.prog s 33 a x))),[.loc 0,.loc 2],.push,[]⟩]
def XN:List AA:=[
 ⟨none,.r1 (fun s a=>AC Try.prog s 92 a),[.var 3],.push,[]⟩,
 ⟨none,.p1 AE,[.loc 0],.push,[]⟩,
 ⟨none,.p1 (fun x=>AB Try.prog 104 x 2),[.loc 0],.push,[]⟩,
 ⟨none,.r1 (fun s a=>AC Try.prog s 4 a),[.loc 0],.push,[]⟩,
 ⟨none,.p1 some,[.loc 0],(.set 4),[]⟩]
def kj:As:=⟨3,7,(.seq (.ops d8) (.seq (.ops d9) (.seq (.ops eA) (.seq (.seq (.ops XL) (.seq (.ops XM) (.cond (.var 6)
 (.ops eB)
 .skip))) (.seq (.ops XN) .ret))))),[((.var 4),none)]⟩
def eC:List AA:=[
 ⟨none,.p1 some,[(.const (.bool false))],(.set 3),[]⟩]
def eD:List AA:=[
 ⟨none,.r1 (fun s a=>AC Try.prog s 44 a),[.var 1],.push,[]⟩,
 ⟨none,.p1 AE,[.loc 0],.push,[]⟩,
 ⟨none,.p1 (fun x=>AB Try.prog 91 x 4),[.loc 0],.push,[]⟩,
 ⟨none,.r1 (fun s a=>AC Try.prog s 89 a),[.loc 0],.push,[]⟩,
 ⟨none,.r1 (fun s a=>AC Try.prog s 92 a),[.var 2],.push,[]⟩,
 ⟨none,.call 90,[.var 0],.push,[⟨none,.r1 (fun s a=>AC Try.prog s 92 a),[.var 2],(.loc 1)⟩,⟨none,.r1 (fun s a=>AC Try.prog s 89 a),[.loc 3],(.loc 2)⟩,⟨none,.r1 (fun s a=>AC Try.prog s 44 a),[.var 1],(.loc 5)⟩]⟩,
 ⟨none,.p2 (AD Try.prog 89),[.loc 2,.loc 0],.push,[]⟩,
 ⟨none,.r1 (fun s a=>AC Try.prog s 92 a),[.loc 0],.push,[]⟩,
 ⟨none,.r (fun s=>BU (Gt Try.prog s false 92)),[.loc 0,.loc 3],.push,[]⟩,
 ⟨none,.p1 some,[.loc 0],(.set 3),[]⟩]
def kl:As:=⟨3,4,(.seq (.ops eC) (.seq (.ops eD) .ret)),[((.var 3),none)]⟩
def VN:List AA:=[
 ⟨none,.p1 some,[(.const (.int .i64 (0)))],(.set 2),[]⟩]
def VO:List AA:=[
 ⟨none,.r (fun s l=>match l with | [x]=>A6 Try.prog s 89 x | _=>none),[.var 0],(.set 4),[]⟩,
 ⟨none,.p1 some,[(.const (.int .i64 (0)))],(.set 5),[]⟩]
def Ps:List AA:=[
 ⟨none,.p2 (AM Try.prog .lss 3),[.var 5,.var 4],(.set 6),[]⟩]
def VP:List AA:=[
 ⟨none,.p1 some,[.var 5],(.set 3),[]⟩]
def VQ:List AA:=[
 ⟨none,.p2 (AD Try.prog 89),[.var 0,.var 3],.push,[]⟩,
 ⟨none,.r1 (fun s a=>AC Try.prog s 92 a),[.loc 0],.push,[]⟩,
 ⟨none,.callv,[.var 1,.loc 0],(.set 7),[]⟩]
def VR:List AA:=[
 ⟨none,.p1 some,[.var 3],(.set 2),[]⟩]
def VS:List AA:=[
 ⟨none,.p2 (AM Try.prog .add 3),[(.var 5),(.const (.int .i64 (1)))],.push,[]⟩,
 ⟨none,.p1 some,[.loc 0],(.set 5),[]⟩]
def KP:Aa:=(.seq (.ops Ps) (.seq (.cond (.var 6)
 .skip
 (.exit 0)) (.seq (.block 1 (.seq (.ops VP) (.seq (.ops VQ) (.cond (.var 7)
 (.seq (.ops VR) .ret)
 .skip)))) (.ops VS))))
def VT:List AA:=[
 ⟨none,.p1 some,[(.const (.int .i64 (-1)))],(.set 2),[]⟩]
def iY:As:=⟨2,8,(.seq (.ops VN) (.seq (.seq (.ops VO) (.block 0 (.loop KP))) (.seq (.ops VT) .ret))),[((.var 2),none)]⟩
theorem gS:AR Try.prog 96=some ki:=by kernel_rfl
theorem gT:AR Try.prog 97=some kj:=by kernel_rfl
theorem gU:AR Try.prog 98=some kl:=by kernel_rfl
theorem Zu:AR Try.prog 112=some iY:=by kernel_rfl
end
end Go.Proofs.Ytilhhmkdcoajnaa.Am
set_option linter.unusedVariables false
set_option linter.unusedSimpArgs false
set_option maxRecDepth 16000
namespace Go.Proofs.Ytilhhmkdcoajnaa.Am
open Go Go.Proofs
noncomputable section
theorem aV{s:AG}{a b:Nat}(hb:0<b):AM Try.prog .rem 3 (iv (a:Int)) (iv (b:Int))=some (iv ((a % b:Nat):Int)):=by
 rw[Int.natCast_emod]
 exact Mz (P:=Try.prog) (t:=3) (k:=.i64) (by omega) (by omega)
theorem Ac.put_gone{ow:Ow}{s:AG}{p:Nat}{x:Sf}{v:Sv}(h:Ac ow s p x v){c:Nat}{ls:List Int}{b:Bool×Bool}(hc:v.cl c=some (ls,b))(y:Bool):
  ∃s',AN Try.prog s 4 (.ptr (some (c,2))) (.bool y)=some s'∧Ac ow s' p x { v with cl:=AP v.cl c (ls,b.1,y) }∧AH (· = (p,14,c)) ow s ow s'∧s'.next=s.next:=by
 obtain⟨u,g1,g2,g3,g4⟩:=h.cls c _ hc
 obtain⟨s',k1,k2,k3,k4⟩:=g1.store (k:=2) (d:=.bool y) (by simp) (t:=4) Ju rfl rfl
 have st:AH (· = (p,14,c)) ow s ow s':=⟨by omega,fun _ _ _=>rfl,fun j _ hm=>k4 j fun e=>hm (by rw[e];exact g2)⟩
 have hm:∀a i,a≠14→¬ ((p,a,i):BT)=(p,14,c):=fun a i ha=>CA ha
 have hlt:=h.lt
 refine⟨s',k1,{ box:=h.box.step st h.tag h.lt (hm 0 0 (by decide)),tag:=h.tag,lt:=by omega,w:=h.w.step st (hm 1 0 (by decide)) (fun j=>hm 2 j (by decide)),learned:=h.learned.step st (hm 3 0 (by decide)),value:=h.value.step st (hm 4 0 (by decide)),level:=h.level.step st (hm 5 0 (by decide)),why:=h.why.step st (hm 6 0 (by decide)),heat:=h.heat.step st (hm 7 0 (by decide)),phase:=h.phase.step st (hm 8 0 (by decide)),trail:=h.trail.step st (hm 9 0 (by decide)),limits:=h.limits.step st (hm 10 0 (by decide)),model:=h.model.step st (hm 11 0 (by decide)),trace:=h.trace.step st (hm 12 0 (by decide)) (hm 13 0 (by decide)),cls:=fun d l hd=>?_ },st,k3⟩
 have hd:AP v.cl c (ls,b.1,y) d=some l:=hd
 unfold AP at hd
 by_cases ed:d=c
 ·subst ed
  rw[if_pos rfl]at hd
  injection hd with hd
  subst hd
  exact⟨u,k2,g2,by omega,g4.step st (hm 15 d (by decide))⟩
 ·rw[if_neg ed]at hd
  exact(h.cls d l hd).step st (fun q=>by injection q with _ q;injection q with _ q;exact ed q) (hm 15 d (by decide))
theorem Ac.put_learned{ow:Ow}{s:AG}{p:Nat}{x:Sf}{v:Sv}(h:Ac ow s p x v){k:Nat}(hk:k<v.learned.length)(y:Nat):
  ∃s',AN Try.prog s 92 (Az x.l k) (AJ y)=some s'∧Ac ow s' p x { v with learned:=v.learned.set k y }∧AH (· = (p,3,0)) ow s ow s'∧s'.next=s.next:=by
 obtain⟨s',g1,g2,g3,g4⟩:=h.learned.set (t:=92) El (k:=k) (x:=AJ y) (by rw[kn];exact hk) rfl rfl
 have hm:∀a i,a≠3→¬ ((p,a,i):BT)=(p,3,0):=fun a i ha=>CA ha
 have hl:=h.lt
 exact⟨s',g1,{ box:=h.box.step g3 h.tag h.lt (hm 0 0 (by decide)),tag:=h.tag,lt:=by omega,w:=h.w.step g3 (hm 1 0 (by decide)) (fun j=>hm 2 j (by decide)),learned:=by show BO ow (p,3,0) s' x.l (List.map _ (List.set v.learned k y));rw[lx];exact g2,value:=h.value.step g3 (hm 4 0 (by decide)),level:=h.level.step g3 (hm 5 0 (by decide)),why:=h.why.step g3 (hm 6 0 (by decide)),heat:=h.heat.step g3 (hm 7 0 (by decide)),phase:=h.phase.step g3 (hm 8 0 (by decide)),trail:=h.trail.step g3 (hm 9 0 (by decide)),limits:=h.limits.step g3 (hm 10 0 (by decide)),model:=h.model.step g3 (hm 11 0 (by decide)),trace:=h.trace.step g3 (hm 12 0 (by decide)) (hm 13 0 (by decide)),cls:=fun c l hc=>(h.cls c l hc).step g3 (hm 14 c (by decide)) (hm 15 c (by decide)) },g3,g4⟩
def IC(v:Sv)(c:Nat)(l:Int):Bool:=decide (v.why.getD l.natAbs none=some c)
theorem aN{s:AG}{i:Nat}{cs:List AV}(h:C8 s i cs):Dq s i=true:=by
 obtain⟨r,h1,_,h2,h3⟩:=h
 simp[Dq,rowAt,h1,h2,h3,EK]
theorem Xp{s:AG}{w:Option Nat}{c:Nat}(hc:Dq s c=true)(hw:∀d,w=some d→Dq s d=true):Gt Try.prog s false 92 (G4 w) (.ptr (some (c,0)))=some (.bool (decide (w=some c))):=by
 have hs:NW Try.prog 92=true:=by kernel_rfl
 cases w with
 | none=>rfl
 | some d =>
  have hd:=hw d rfl
  show AI (NW Try.prog 92 && Dq s d && Dq s c) (some (AV.bool ((Nat.beq d c && Nat.beq 0 0) != false)))=_
  rw[hs,hd,hc]
  by_cases e:d=c
  ·subst e
   rw[D1 rfl,decide_eq_true rfl];rfl
  ·rw[Di e,decide_eq_false (fun q=>e (by injection q))];rfl
theorem Z7{E:BJ}(hE:Good E){ow:Ow}{s:AG}{p:Nat}{x:Sf}{v:Sv}(h:Ac ow s p x v){n B C c:Nat}(hn:n<100000000)(hw:v.why.length=n+1)(hcc:∃l,v.cl c=some l)(hwc:∀d,some d∈v.why→∃l,v.cl d=some l)(hB:Ak s B (AJ p))(hC:Ak s C (AJ c)){l:Int}(hl:VL n l):
  WF E 98 [iv l,.ptr (some (B,0)),.ptr (some (C,0))] (fun r s'=>r=.bool (IC v c l)∧s=s') s:=by
 have l1:=hB.load Dg
 have l2:=hC.load KK
 simp only[AJ]at l1 l2
 have hvar:=Cu hE (s:=s) (l:=l) (by obtain⟨h0,h1⟩:=hl;exact⟨by omega,by omega⟩)
 have hk:l.natAbs<v.why.length:=by have:=hl.2;omega
 have hg:=AQ (d:=(none:Option Nat)) hk
 have i1:=h.why.addr Try.underlying89 El (k:=l.natAbs) (by rw[kn];exact hk)
 have i2:=h.why.get (t:=92) KK (k:=l.natAbs) (u:=G4 (v.why.getD l.natAbs none)) (by rw[lg,hg];rfl)
 have own:∀d,(∃l,v.cl d=some l)→Dq s d=true:=fun d ⟨l,hd⟩=>by
  obtain⟨u,g1,_⟩:=h.cls d l hd
  exact aN g1
 have e1:=Xp (own c hcc) (w:=v.why.getD l.natAbs none) (fun d hd=>own d (hwc d (by rw[← hd];exact kq hg)))
 have eqp:∀a:Nat×Nat,Fs (.ptr (some a)) (.ptr (some a))=true:=fun a=>by obtain⟨i,o⟩:=a;simp[Fs]
 have hself:=h.why.self
 refine hE.go gU (by decide) rfl ?_
 simp only[kl,eC,eD,l1,AF,Kq,h.ld_why,l2,Qa,Qb,Qc,Qd,Qe,Qf,Qg,Qh,Qi,Qj,Qk,Ql,Qm,Qn,true_and,and_true,Qo,Qp,Qq,Qr,Qs,Qt,Qu,Qv,Qw,Qx,Qy,Qz,Ra,Rb,Rc,Rd,Re,Rf,Rg,Rh,Ri,Rj,Rk,Rl,Rm,Ya,Yb,Yc,Rn,Ro,Rp,Yd,Ye,Rq,Rs,Rt,Ru,Rv,Rw,Rx]
 refine hvar.mono ?_
 rintro _ _ ⟨rfl,rfl⟩
 simp only[BP,Ap,l1,l2,h.ld_why,eqp,hself,i1,i2,BU,e1,IC,Qa,Qb,Qc,Qd,Qe,Qf,Qg,Qh,Qi,Qj,Qk,Ql,Qm,Qn,true_and,and_true,Qo,Qp,Qq,Qr,Qs,Qt,Qu,Qv,Qw,Qx,Qy,Qz,Ra,Rb,Rc,Rd,Re,Rf,Rg,Rh,Ri,Rj,Rk,Rl,Rm,Ya,Yb,Yc,Rn,Ro,Rp,Yd,Ye,Rq,Rs,Rt,Ru,Rv,Rw,Rx]
def C4(v:Sv)(c n:Nat):Bool:=match v.cl c with
 | some (ls,_)=>decide (n % 2=0) && decide (2<ls.length) && !(ls.any (IC v c))
 | none=>false
def CE(v:Sv)(c n:Nat):Sv:=match v.cl c with
 | some (ls,b)=>{ v with cl:=AP v.cl c (ls,b.1,C4 v c n),trace:=if C4 v c n=true then v.trace++[(true,ls)]else v.trace }
 | none=>v
theorem RM{f:Int→Bool}(L:List Int):(A9 f L 0).isSome=L.any f:=by
 cases h:L.any f with
 | true =>
  rw[Cp]
  obtain⟨x,h1,h2⟩:=List.any_eq_true.1 h
  exact⟨x,h1,h2⟩
 | false =>
  cases hs:(A9 f L 0).isSome with
  | false=>rfl
  | true =>
   obtain⟨x,h1,h2⟩:=Cp.1 hs
   rw[List.any_eq_true.2 ⟨x,h1,h2⟩]at h
   cases h
def EM(p:Nat)(t:BT):Prop:=BI p t∨t=(p,24,0)
theorem AH.bD{p:Nat}{ow ow':Ow}{s s':AG}(h:AH (BI p) ow s ow' s'):AH (EM p) ow s ow' s':=h.mono fun _ ht=>.inl ht
theorem Ak.stepB{p:Nat}{ow ow':Ow}{s s':AG}{j a:Nat}{c:AV}(h:Ak s j c)(k:AH (BI p) ow s ow' s')(ht:ow j=(p,a,0))(hl:j<s.next)(ha:16≤a):Ak s' j c∧ow' j=(p,a,0)∧j<s'.next:=by
 have hm:¬ BI p (ow j):=fun q=>by
  rw[ht]at q
  have:=q.2.2.2
  exact absurd this (by show ¬ a<16;omega)
 have hn:=k.next
 exact⟨h.keep (k.heap j hl hm),by rw[k.tags j hl hm];exact ht,by omega⟩
theorem gW{E:BJ}{K:List AV→AG→Prop}{s:AG}{B N C c m len:Nat}{u:AV}{a3:Bool}(l1:AC Try.prog s 92 (.ptr (some (C,0)))=some (.ptr (some (c,0))))(l2:AC Try.prog s 3 (.ptr (some (N,0)))=some (iv (m:Int)))(l3:AC Try.prog s 23 (.ptr (some (c,0)))=some u)(ln:A6 Try.prog s 23 u=some (iv (len:Int)))(x0 x4 x6:AV)
  {s':AG} (hst:AN Try.prog s 4 (.ptr (some (c,2))) (.bool (decide (m % 2=0) && decide (2<len) && !a3))=some s')
  (hK:K [x0,.ptr (some (B,0)),.ptr (some (N,0)),.ptr (some (C,0)),x4,.bool a3,x6] s'):
  Qb E XL (fun v s=>K v s) [] [x0,.ptr (some (B,0)),.ptr (some (N,0)),.ptr (some (C,0)),x4,.bool a3,x6] s:=by
 have e1:=aV (s:=s) (a:=m) (b:=2) (by decide)
 have e2:iv ((2:Nat):Int)=iv 2:=rfl
 rw[e2]at e1
 have d1:decide (((m % 2:Nat):Int)=0)=decide (m % 2=0):=by
  by_cases h:m % 2=0
  ·rw[decide_eq_true h,h];rfl
  ·rw[decide_eq_false h,decide_eq_false (by omega)]
 have d2:decide ((2:Int)<(len:Int))=decide (2<len):=by
  by_cases h:2<len
  ·rw[decide_eq_true h,decide_eq_true (by omega)]
  ·rw[decide_eq_false h,decide_eq_false (by omega)]
 generalize decide (m % 2=0)=b1 at *
 generalize decide (2<len)=b2 at *
 cases b1<;>cases b2<;>cases a3<;>simp only[Bool.and_true,Bool.and_false,Bool.true_and,Bool.false_and,Bool.not_true,Bool.not_false]at hst<;>simp only[XL,l1,l2,e1,d1,AF,Cy,F2,l3,ln,d2,BU,hst,AX,Qa,Qb,Qc,Qd,Qe,Qf,Qg,Qh,Qi,Qj,Qk,Ql,Qm,Qn,true_and,and_true,Qo,Qp,Qq,Qr,Qs,Qt,Qu,Qv,Qw,Qx,Qy,Qz,Ra,Rb,Rc,Rd,Re,Rf,Rg,Rh,Ri,Rj,Rk,Rl,Rm,Ya,Yb,Yc,Rn,Ro,Rp,Yd,Ye,Rq,Rs,Rt,Ru,Rv,Rw,Rx]<;>exact hK
theorem Xk       {E : BJ}  (hE : Good E) {ow : Ow} {s : AG}  {p : Nat} {x : Sf} {v : Sv} (h : Ac  ow s p x v) {n B N c m : Nat} (hn : n < 100000000) (hw : v.why.length = n + 1) (hwc : ∀ d, some d ∈ v.why → ∃ l, v.cl d = some l) {ls : List Int} {b : Bool × Bool} (hc : v.cl c = some (ls, b)) (hls : A1    n ls) (hls1 : ls.length ≤ 1000000) (hT : v.trace.length ≤ 1000000) (hm : m ≤ 1000000000)
    (hB:Ak s B (AJ p)) (hBt:ow B=(p,21,0)) (hBl:B<s.next) (hN:Ak s N (iv (m:Int))) (hNt:ow N=(p,24,0)) (hNl:N<s.next):
    WF E 97 [AJ c,.ptr (some (B,0)),.ptr (some (N,0))] (fun r s'=>∃ow' x',r=.bool (C4 v c (m+1))∧Ac ow' s' p x' (CE v c (m+1))∧x'.l=x.l∧Ak s' B (AJ p)∧ow' B=(p,21,0)∧B<s'.next∧Ak s' N (iv ((m+1:Nat):Int))∧ow' N=(p,24,0)∧N<s'.next∧AH (EM p) ow s ow' s') s:=by
  have hptr:∀i,Made.val i .ptr=.ptr (some (i,0)):=fun _=>rfl
  have hms:∀ (m:Nat) (i:Nat),Made.val i (.slice m)=.slice (some (i,0)) m (some m):=fun _ _=>rfl
  have hbox:DD 92 (AV.ptr (some (c,0)))=some (AO 92 0 [AJ c],.ptr):=by simp[DD,AJ,AV.cells]
  have st1:AH (fun _=>False) ow s (ext ow s.next (p,21,0)) (newObj s (AO 92 0 [AJ c])):=AH.new _ ow s _ _
  have h1:=h.keep st1 (fun _ q=>q.elim)
  have c1:Ak (newObj s (AO 92 0 [AJ c])) s.next (AJ c):=Ak.new
  have hB1:Ak (newObj s (AO 92 0 [AJ c])) B (AJ p):=hB.keep (st1.heap B hBl fun q=>q)
  have hN1:Ak (newObj s (AO 92 0 [AJ c])) N (iv (m:Int)):=hN.keep (st1.heap N hNl fun q=>q)
  have tB1:(ext ow s.next (p,21,0)) B=(p,21,0):=by rw[Dj hBl];exact hBt
  have tN1:(ext ow s.next (p,21,0)) N=(p,24,0):=by rw[Dj hNl];exact hNt
  have tC1:(ext ow s.next (p,21,0)) s.next=(p,21,0):=Cn (kp _)
  have n1:(newObj s (AO 92 0 [AJ c])).next=s.next+1:=rfl
  have lB:B<(newObj s (AO 92 0 [AJ c])).next:=by rw[n1];omega
  have lN:N<(newObj s (AO 92 0 [AJ c])).next:=by rw[n1];omega
  have lC:s.next<(newObj s (AO 92 0 [AJ c])).next:=by rw[n1];omega
  have stD1:AH (EM p) ow s (ext ow s.next (p,21,0)) (newObj s (AO 92 0 [AJ c])):=st1.mono fun _ q=>q.elim
  generalize hs1:newObj s (AO 92 0 [AJ c])=s1 at *
  generalize how1:ext ow s.next (p,21,0)=ow1 at *
  generalize hC:s.next=C at *
  clear st1 n1
  obtain⟨u,u1,u2,u3,u4,u5⟩:=h1.lits hc
  have lc:=c1.load KK
  simp only[AJ]at lc hbox hs1
  have hheld:=F0 hE (s:=s1) (L:=ls) (f:=IC v c) (g:=98) (cp:=[.ptr (some (B,0)),.ptr (some (C,0))]) (fun q hq=>Z7 hE h1 hn hw ⟨_,hc⟩ hwc hB1 c1 (hls.1 q hq)) (by omega) u4.slice
  refine hE.go gT (by decide) rfl ?_
  simp only[kj,d8,AJ,hbox,hptr,hs1,hC,d9,lc,AF,Cy,u1,mC,lq,Qa,Qb,Qc,Qd,Qe,Qf,Qg,Qh,Qi,Qj,Qk,Ql,Qm,Qn,true_and,and_true,Qo,Qp,Qq,Qr,Qs,Qt,Qu,Qv,Qw,Qx,Qy,Qz,Ra,Rb,Rc,Rd,Re,Rf,Rg,Rh,Ri,Rj,Rk,Rl,Rm,Ya,Yb,Yc,Rn,Ro,Rp,Yd,Ye,Rq,Rs,Rt,Ru,Rv,Rw,Rx]
  refine hheld.mono ?_
  rintro _ _ ⟨rfl,rfl⟩
  rw[RM]
  have e1:=Ao Try.prog 3 (m:Int) 1 ⟨by omega,by omega⟩
  have hcast:((m:Int)+1)=((m+1:Nat):Int):=by omega
  obtain⟨s2,g1,g2,g3,g4⟩:=hN1.store (d:=iv ((m+1:Nat):Int)) (t:=3) Be rfl rfl
  have st2:AH (· = (p,24,0)) ow1 s1 ow1 s2:=⟨by omega,fun _ _ _=>rfl,fun j _ hj=>g4 j fun e=>hj (by rw[e];exact tN1)⟩
  have h2:=h1.keep16 st2 (fun a i ha q=>by injection q with _ q;injection q with q;omega)
  have hBN:B≠N:=fun e=>by rw[e,tN1]at tB1;injection tB1 with _ q;injection q with q;cases q
  have hCN:C≠N:=fun e=>by rw[e,tN1]at tC1;injection tC1 with _ q;injection q with q;cases q
  have hB2:Ak s2 B (AJ p):=hB1.keep (g4 B hBN)
  have hC2:Ak s2 C (AJ c):=c1.keep (g4 C hCN)
  simp only[eA,hN1.load Df,e1,hcast,BU,g1,AX,Qa,Qb,Qc,Qd,Qe,Qf,Qg,Qh,Qi,Qj,Qk,Ql,Qm,Qn,true_and,and_true,Qo,Qp,Qq,Qr,Qs,Qt,Qu,Qv,Qw,Qx,Qy,Qz,Ra,Rb,Rc,Rd,Re,Rf,Rg,Rh,Ri,Rj,Rk,Rl,Rm,Ya,Yb,Yc,Rn,Ro,Rp,Yd,Ye,Rq,Rs,Rt,Ru,Rv,Rw,Rx]
  obtain⟨w,w1,w2,w3,w4,w5⟩:=h2.lits hc
  have lc2:=hC2.load KK
  simp only[AJ]at lc2
  have lnw:∀s',A6 Try.prog s' 23 w=some (iv (ls.length:Int)):=fun s'=>by
    have:=w4.len Try.underlying23 s'
    rw[kn]at this
    exact this
  have hg:(decide ((m+1) % 2=0) && decide (2<ls.length) && !(ls.any (IC v c)))=C4 v c (m+1):=by unfold C4;rw[hc]
  obtain⟨s3,k1,k2,k3,k4⟩:=h2.put_gone hc (C4 v c (m+1))
  have st3:AH (BI p) ow1 s2 ow1 s3:=k3.mono fun t ht=>by rw[ht];exact⟨rfl,by simp,by simp,by simp⟩
  obtain⟨hB3,tB3,lB3⟩:=hB2.stepB st3 tB1 (by omega) (by decide)
  obtain⟨hC3,tC3,lC3⟩:=hC2.stepB st3 tC1 (by omega) (by decide)
  obtain⟨hN3,tN3,lN3⟩:=g2.stepB st3 tN1 (by omega) (by decide)
  refine gW lc2 (g2.load Df) w1 (lnw _) _ _ _ (s':=s3) (by rw[hg];exact k1) ?_
  have hcl3:AP v.cl c (ls,b.1,C4 v c (m+1)) c=some (ls,b.1,C4 v c (m+1)):=Aj _ _ _
  obtain⟨y,y1,y2,y3,y4,y5⟩:=k2.lits hcl3
  have y3:AC Try.prog s3 4 (.ptr (some (c,2)))=some (.bool (C4 v c (m+1))):=y3
  have lc3:=hC3.load KK
  have lb3:=hB3.load Dg
  simp only[AJ]at lc3 lb3
  have st13:AH (EM p) ow s ow1 s3:=(stD1.trans (st2.mono fun t ht=>.inr ht)).trans st3.bD
  have hS:∀g,C4 v c (m+1)=g→CE v c (m+1)={ v with cl:=AP v.cl c (ls,b.1,g),trace:=if g=true then v.trace++[(true,ls)]else v.trace }:=fun g e=>by unfold CE;rw[hc];dsimp only;rw[e]
  cases hgg:C4 v c (m+1)with
  | false =>
    rw[hgg]at k2 y3
    simp only[XM,lc3,AF,F2,y3,XN,Qa,Qb,Qc,Qd,Qe,Qf,Qg,Qh,Qi,Qj,Qk,Ql,Qm,Qn,true_and,and_true,Qo,Qp,Qq,Qr,Qs,Qt,Qu,Qv,Qw,Qx,Qy,Qz,Ra,Rb,Rc,Rd,Re,Rf,Rg,Rh,Ri,Rj,Rk,Rl,Rm,Ya,Yb,Yc,Rn,Ro,Rp,Yd,Ye,Rq,Rs,Rt,Ru,Rv,Rw,Rx]
    refine⟨ow1,x,?_,rfl,hB3,tB3,lB3,hN3,tN3,lN3,st13⟩
    rw[hS false hgg]
    exact k2
  | true =>
    rw[hgg]at k2 y3
    have hne:ls≠[]:=fun e=>by
      unfold C4 at hgg
      rw[hc,e]at hgg
      simp at hgg
    have eqp:∀a:Nat×Nat,Fs (.ptr (some a)) (.ptr (some a))=true:=fun a=>by obtain⟨i,o⟩:=a;simp[Fs]
    simp only[XM,lc3,AF,F2,y3,eB,lb3,H6,k2.ld_trc,Cy,y1,Qa,Qb,Qc,Qd,Qe,Qf,Qg,Qh,Qi,Qj,Qk,Ql,Qm,Qn,true_and,and_true,Qo,Qp,Qq,Qr,Qs,Qt,Qu,Qv,Qw,Qx,Qy,Qz,Ra,Rb,Rc,Rd,Re,Rf,Rg,Rh,Ri,Rj,Rk,Rl,Rm,Ya,Yb,Yc,Rn,Ro,Rp,Yd,Ye,Rq,Rs,Rt,Ru,Rv,Rw,Rx]
    refine(Hw hE (kp _) y4.slice hls1).mono ?_
    rintro z s4 ⟨hz,ho⟩
    have hst:AH (fun _=>False) ow1 s3 (ext ow1 s3.next (p,13,0)) s4:=AH.old ho _
    have h4:=k2.keep hst (fun _ q=>q.elim)
    have hstB:AH (BI p) ow1 s3 (ext ow1 s3.next (p,13,0)) s4:=hst.mono fun _ q=>q.elim
    obtain⟨hB4,tB4,lB4⟩:=hB3.stepB hstB tB3 lB3 (by decide)
    obtain⟨hC4,tC4,lC4⟩:=hC3.stepB hstB tC3 lC3 (by decide)
    obtain⟨hN4,tN4,lN4⟩:=hN3.stepB hstB tN3 lN3 (by decide)
    obtain⟨t',s5,ow2,a1,a2,a3,a4,a5⟩:=h4.push_trace hT true hz.slice (fun j hj=>by
      obtain⟨q1,q2⟩:=hz.slot_ge hne j hj
      exact⟨Cn q1,q2⟩)
    obtain⟨s6,d1,d2,d3,d4⟩:=a2.store (k:=12) (d:=t') (by simp) (t:=33) GD a3 a4
    obtain⟨f1,f2⟩:=a5 s6 v.broken d2 (by omega) (fun j hj=>d4 j hj)
    obtain⟨hB6,tB6,lB6⟩:=hB4.stepB f2 tB4 lB4 (by decide)
    obtain⟨hC6,tC6,lC6⟩:=hC4.stepB f2 tC4 lC4 (by decide)
    obtain⟨hN6,tN6,lN6⟩:=hN4.stepB f2 tN4 lN4 (by decide)
    have lb4:=hB4.load Dg
    have lc6:=hC6.load KK
    have b27:Bw Try.prog 27 (zipIdx [0,1] [.bool true,z])=some (.agg [.bool true,z]):=by
      have Lr:(AV.bool true).cells=[.bool true]:=rfl
      simp[Bw,Yy,Try.underlying27,Bt,Ju,Cb,zipIdx,Dk,DT,AI,Lr,hz.slice.isCell.2]
      rfl
    have lb5:AC Try.prog s5 44 (.ptr (some (B,0)))=some (.ptr (some (p,0))):=by
      have hBp:B≠p:=fun e=>by
        have:=h.tag
        rw[← e,hBt]at this
        injection this with _ q
        injection q with q
        cases q
      have:Ak s5 B (AJ p):=hB6.keep (d4 B hBp).symm
      exact this.load Dg
    obtain⟨y',y1',y2',y3',y4',y5'⟩:=f1.lits (c:=c) (l:=(ls,b.1,true)) (Aj _ _ _)
    have y3':AC Try.prog s6 4 (.ptr (some (c,2)))=some (.bool true):=y3'
    simp only[AJ]at lb4 lc6
    simp only[BP,Ap,lb4,eqp,h4.ld_trc,h4.trace.self,b27,KM,hms,a1,lb5,BU,d1,AX,AF,H6,XN,lc6,F2,y3',Qa,Qb,Qc,Qd,Qe,Qf,Qg,Qh,Qi,Qj,Qk,Ql,Qm,Qn,true_and,and_true,Qo,Qp,Qq,Qr,Qs,Qt,Qu,Qv,Qw,Qx,Qy,Qz,Ra,Rb,Rc,Rd,Re,Rf,Rg,Rh,Ri,Rj,Rk,Rl,Rm,Ya,Yb,Yc,Rn,Ro,Rp,Yd,Ye,Rq,Rs,Rt,Ru,Rv,Rw,Rx]
    refine⟨ow2,{ x with trc:=t' },?_,rfl,hB6,tB6,lB6,hN6,tN6,lN6,(st13.trans hstB.bD).trans f2.bD⟩
    rw[hS true hgg,show(if true=true then v.trace++[(true,ls)]else v.trace)=v.trace++[(true,ls)]from if_pos rfl]
    exact f1
def BS:List Nat→Nat→Sv→Sv×List Nat
 | [],_,v=>(v,[])
 | c::l,n,v=>((BS l (n+1) (CE v c (n+1))).1,if C4 v c (n+1)=true then (BS l (n+1) (CE v c (n+1))).2 else c::(BS l (n+1) (CE v c (n+1))).2)
def G8(v:Sv):Sv:={ (BS v.learned 0 { v with room:=v.room+v.room / 8 }).1 with learned:=(BS v.learned 0 { v with room:=v.room+v.room / 8 }).2 }
theorem Ta(v:Sv)(a:List Nat)(c n:Nat):CE { v with learned:=a } c n={ CE v c n with learned:=a }:=by
 show(match v.cl c with
  | some (ls,b)=>({ v with learned:=a,cl:=AP v.cl c (ls,b.1,C4 v c n),trace:=if C4 v c n=true then v.trace++[(true,ls)]else v.trace }:Sv)
  | none=>{ v with learned:=a })=_
 unfold CE
 cases v.cl c with
 | none=>rfl
 | some l=>rfl
structure Hl(n:Nat)(Ls:List Nat)(k:Nat)(v:Sv):Prop where
 why:v.why.length=n+1
 whc:∀d,some d∈v.why→∃l,v.cl d=some l
 cls:∀c∈Ls,∃ls b,v.cl c=some (ls,b)∧A1 n ls∧ls.length≤1000000
 trc:v.trace.length+(Ls.length - k)≤1000000
theorem ME(v:Sv)(c n:Nat):(CE v c n).why=v.why:=by
 unfold CE
 cases v.cl c<;>rfl
theorem OT{v:Sv}{c n d:Nat}{ls:List Int}{b:Bool×Bool}(h:v.cl d=some (ls,b)):∃g,(CE v c n).cl d=some (ls,b.1,g):=by
 unfold CE
 cases hc:v.cl c with
 | none=>exact⟨b.2,h⟩
 | some l =>
  dsimp only
  unfold AP
  by_cases e:d=c
  ·subst e
   rw[hc]at h
   injection h with h
   subst h
   exact⟨_,if_pos rfl⟩
  ·exact⟨b.2,by rw[if_neg e];exact h⟩
theorem Tb(v:Sv)(c n:Nat):(CE v c n).trace.length≤v.trace.length+1:=by
 unfold CE
 cases v.cl c with
 | none=>exact mG _
 | some l =>
  dsimp only
  split
  ·rw[kr];simp
  ·omega
theorem Hl.step{n:Nat}{Ls:List Nat}{k:Nat}{v:Sv}(h:Hl n Ls k v)(hk:k<Ls.length)(c m:Nat):Hl n Ls (k+1) (CE v c m):=by
  refine⟨by rw[ME];exact h.why,fun d hd=>?_,fun d hd=>?_,?_⟩
  · rw[ME]at hd
    obtain⟨⟨ls,b⟩,hl⟩:=h.whc d hd
    obtain⟨g,hg⟩:=OT (c:=c) (n:=m) hl
    exact⟨_,hg⟩
  · obtain ⟨ls, b, h1, h2, h3⟩ := h.cls d hd
    obtain⟨g,hg⟩:=OT (c:=c) (n:=m) h1
    exact⟨ls,_,hg,h2,h3⟩
  · have := Tb        v c m
    have:=h.trc
    omega
structure SR(ow:Ow)(s:AG)(p:Nat)(x:Sf)(xl:AV)(w:Sv)(arr:List Nat)(B N k:Nat):Prop where
 sat:Ac ow s p x { w with learned:=arr }
 xl:x.l=xl
 hB:Ak s B (AJ p)
 tB:ow B=(p,21,0)
 lB:B<s.next
 hN:Ak s N (iv (k:Int))
 tN:ow N=(p,24,0)
 lN:N<s.next
theorem SR.one{E:BJ}(hE:Good E){ow:Ow}{s:AG}{p:Nat}{x:Sf}{xl:AV}{w:Sv}{arr:List Nat}{B N k n:Nat}(h:SR ow s p x xl w arr B N k){Ls:List Nat}(hn:n<100000000)(hI:Hl n Ls k w)(hk:k<Ls.length)(hl:Ls.length≤1000000){c:Nat}(hc:c∈Ls):
  WF E 97 [AJ c,.ptr (some (B,0)),.ptr (some (N,0))] (fun r s'=>∃ow' x',r=.bool (C4 w c (k+1))∧SR ow' s' p x' xl (CE w c (k+1)) arr B N (k+1)∧AH (EM p) ow s ow' s') s:=by
 obtain⟨ls,b,h1,h2,h3⟩:=hI.cls c hc
 have:=hI.trc
 refine(Xk hE h.sat (v:={ w with learned:=arr }) hn hI.why hI.whc h1 h2 h3 (by show w.trace.length≤_;omega) (by omega) h.hB h.tB h.lB h.hN h.tN h.lN).mono ?_
 rintro _ s' ⟨ow',x',rfl,g1,g2,g3,g4,g5,g6,g7,g8,g9⟩
 rw[Ta]at g1
 exact⟨ow',x',rfl,⟨g1,g2.trans h.xl,g3,g4,g5,g6,g7,g8⟩,g9⟩
theorem Xi       {E : BJ}  (hE : Good E) {p B N n : Nat} {xl : AV} {Ls : List Nat} (hn : n < 100000000) (hl : Ls.length ≤ 1000000) {ow0 : Ow} {s0 : AG}  {R : Sv × List Nat} {Q : Ar   → Prop} (x2 : AV)
    (hnone:∀s' ow' x' w y3 y5 y6 y7,SR ow' s' p x' xl w Ls B N Ls.length→Hl n Ls Ls.length w→R=(w,Ls)→AH (EM p) ow0 s0 ow' s'→Q ⟨.exit 0,[xl,.func 97 [] [.ptr (some (B,0)),.ptr (some (N,0))],x2,y3,iv (Ls.length:Int),y5,y6,y7],[],s'⟩)
    (hsome:∀s' ow' x' w i y3 y5 y6 y7,i<Ls.length→SR ow' s' p x' xl w Ls B N (i+1)→Hl n Ls (i+1) w→R=((BS (Ls.drop (i+1)) (i+1) w).1,Ls.take i++(BS (Ls.drop (i+1)) (i+1) w).2)→AH (EM p) ow0 s0 ow' s'→Q ⟨.ret,[xl,.func 97 [] [.ptr (some (B,0)),.ptr (some (N,0))],iv (i:Int),y3,iv (Ls.length:Int),y5,y6,y7],[],s'⟩):
    ∀ (l:List Nat) (k:Nat) (s:AG) (ow:Ow) (x:Sf) (w:Sv) (x3 x6 x7:AV),Ls.drop k=l→k≤Ls.length→SR ow s p x xl w Ls B N k→Hl n Ls k w→R=((BS l k w).1,Ls.take k++(BS l k w).2)→AH (EM p) ow0 s0 ow s →
      WC E none (.loop KP) Q [xl,.func 97 [] [.ptr (some (B,0)),.ptr (some (N,0))],x2,x3,iv (Ls.length:Int),iv (k:Int),x6,x7] [] s:=by
  intro l
  induction l with
  | nil =>
    intro k s ow x w x3 x6 x7 hd hk hD hI hR hst
    have:=Fd hd hk
    subst this
    refine WC.loop' ?_
    simp only[KP,Ps,lT,decide_false,Qa,Qb,Qc,Qd,Qe,Qf,Qg,Qh,Qi,Qj,Qk,Ql,Qm,Qn,true_and,and_true,Qo,Qp,Qq,Qr,Qs,Qt,Qu,Qv,Qw,Qx,Qy,Qz,Ra,Rb,Rc,Rd,Re,Rf,Rg,Rh,Ri,Rj,Rk,Rl,Rm,Ya,Yb,Yc,Rn,Ro,Rp,Yd,Ye,Rq,Rs,Rt,Ru,Rv,Rw,Rx]
    refine hnone s ow x w _ _ _ _ hD hI ?_ hst
    rw[hR]
    simp[BS]
  | cons c l ih =>
    intro k s ow x w x3 x6 x7 hd hk hD hI hR hst
    obtain⟨hlt,hx,hd'⟩:=DP hd
    have hkk:decide ((k:Int)<(Ls.length:Int))=true:=decide_eq_true (by omega)
    have e3:=Ao Try.prog 3 (k:Int) 1 ⟨by omega,by omega⟩
    have hcast:((k:Int)+1)=((k+1:Nat):Int):=by omega
    have hbuf:=hD.sat.learned
    rw[hD.xl]at hbuf
    have i1:=hbuf.addr Try.underlying89 El (k:=k) (by rw[kn];exact hlt)
    have i2:=hbuf.get (t:=92) KK (k:=k) (u:=AJ c) (by rw[lg];show(Ls[k]?).map AJ=_;rw[hx];rfl)
    have hone:=hD.one hE hn hI hlt hl (kq hx)
    simp only[AJ]at hone i2
    refine WC.loop' ?_
    generalize hW:WC E none (Aa.loop KP) Q=W at ih ⊢
    simp only[KP,Ps,hkk,VP,VQ,i1,i2,lZ,mE,mN,Qa,Qb,Qc,Qd,Qe,Qf,Qg,Qh,Qi,Qj,Qk,Ql,Qm,Qn,true_and,and_true,Qo,Qp,Qq,Qr,Qs,Qt,Qu,Qv,Qw,Qx,Qy,Qz,Ra,Rb,Rc,Rd,Re,Rf,Rg,Rh,Ri,Rj,Rk,Rl,Rm,Ya,Yb,Yc,Rn,Ro,Rp,Yd,Ye,Rq,Rs,Rt,Ru,Rv,Rw,Rx]
    refine hone.mono ?_
    rintro _ s' ⟨ow',x',rfl,g1,g2⟩
    have hst':=hst.trans g2
    cases hg:C4 w c (k+1)with
    | true =>
      simp only[VR,Qa,Qb,Qc,Qd,Qe,Qf,Qg,Qh,Qi,Qj,Qk,Ql,Qm,Qn,true_and,and_true,Qo,Qp,Qq,Qr,Qs,Qt,Qu,Qv,Qw,Qx,Qy,Qz,Ra,Rb,Rc,Rd,Re,Rf,Rg,Rh,Ri,Rj,Rk,Rl,Rm,Ya,Yb,Yc,Rn,Ro,Rp,Yd,Ye,Rq,Rs,Rt,Ru,Rv,Rw,Rx]
      refine hsome s' ow' x' (CE w c (k+1)) k _ _ _ _ hlt g1 (hI.step hlt c _) ?_ hst'
      rw[hR,hd']
      simp[BS,hg]
    | false =>
      simp only[VS,e3,hcast,Qa,Qb,Qc,Qd,Qe,Qf,Qg,Qh,Qi,Qj,Qk,Ql,Qm,Qn,true_and,and_true,Qo,Qp,Qq,Qr,Qs,Qt,Qu,Qv,Qw,Qx,Qy,Qz,Ra,Rb,Rc,Rd,Re,Rf,Rg,Rh,Ri,Rj,Rk,Rl,Rm,Ya,Yb,Yc,Rn,Ro,Rp,Yd,Ye,Rq,Rs,Rt,Ru,Rv,Rw,Rx]
      refine ih (k+1) s' ow' x' (CE w c (k+1)) _ _ _ hd' hlt g1 (hI.step hlt c _) ?_ hst'
      rw[hR]
      have et:Ls.take (k+1)=Ls.take k++[c]:=by
        rw[List.take_succ_eq_append_getElem hlt]
        rw[ky hlt]at hx
        injection hx with hx
        rw[hx]
      simp[BS,hg,et]
theorem gY{E:BJ}(hE:Good E){ow:Ow}{s:AG}{p:Nat}{x:Sf}{xl:AV}{w:Sv}{Ls:List Nat}{B N n:Nat}(h:SR ow s p x xl w Ls B N 0)(hn:n<100000000)(hI:Hl n Ls 0 w)(hl:Ls.length≤1000000):
    WF E 112 [xl,.func 97 [] [.ptr (some (B,0)),.ptr (some (N,0))]] (fun r s'=>∃ow' x' w',AH (EM p) ow s ow' s' ∧
      ((r=iv (-1)∧SR ow' s' p x' xl w' Ls B N Ls.length∧BS Ls 0 w=(w',Ls)) ∨
       ∃i:Nat,r=iv (i:Int)∧i<Ls.length∧SR ow' s' p x' xl w' Ls B N (i+1)∧Hl n Ls (i+1) w'∧BS Ls 0 w=((BS (Ls.drop (i+1)) (i+1) w').1,Ls.take i++(BS (Ls.drop (i+1)) (i+1) w').2))) s:=by
  have hbuf:=h.sat.learned
  rw[h.xl]at hbuf
  have ln:∀s,A6 Try.prog s 89 xl=some (iv (Ls.length:Int)):=fun s=>by
    have:=hbuf.len Try.underlying89 s
    rw[kn]at this
    exact this
  refine hE.go Zu (by decide) rfl ?_
  simp only[iY,VN,VO,ln,Qa,Qb,Qc,Qd,Qe,Qf,Qg,Qh,Qi,Qj,Qk,Ql,Qm,Qn,true_and,and_true,Qo,Qp,Qq,Qr,Qs,Qt,Qu,Qv,Qw,Qx,Qy,Qz,Ra,Rb,Rc,Rd,Re,Rf,Rg,Rh,Ri,Rj,Rk,Rl,Rm,Ya,Yb,Yc,Rn,Ro,Rp,Yd,Ye,Rq,Rs,Rt,Ru,Rv,Rw,Rx]
  refine Xi hE hn hl (ow0:=ow) (s0:=s) (R:=BS Ls 0 w) _ ?_ ?_ Ls 0 s ow x w _ _ _ rfl (ku _) h hI (by simp) (AH.refl _ _ _)
  · intro s' ow' x' w' y3 y5 y6 y7 g1 g2 g3 g4
    simp only[VT,if_true,Qa,Qb,Qc,Qd,Qe,Qf,Qg,Qh,Qi,Qj,Qk,Ql,Qm,Qn,true_and,and_true,Qo,Qp,Qq,Qr,Qs,Qt,Qu,Qv,Qw,Qx,Qy,Qz,Ra,Rb,Rc,Rd,Re,Rf,Rg,Rh,Ri,Rj,Rk,Rl,Rm,Ya,Yb,Yc,Rn,Ro,Rp,Yd,Ye,Rq,Rs,Rt,Ru,Rv,Rw,Rx]
    exact⟨ow',x',w',g4,.inl ⟨g1,g3⟩⟩
  · intro s' ow' x' w' i y3 y5 y6 y7 g0 g1 g2 g3 g4
    simp only[Qa,Qb,Qc,Qd,Qe,Qf,Qg,Qh,Qi,Qj,Qk,Ql,Qm,Qn,true_and,and_true,Qo,Qp,Qq,Qr,Qs,Qt,Qu,Qv,Qw,Qx,Qy,Qz,Ra,Rb,Rc,Rd,Re,Rf,Rg,Rh,Ri,Rj,Rk,Rl,Rm,Ya,Yb,Yc,Rn,Ro,Rp,Yd,Ye,Rq,Rs,Rt,Ru,Rv,Rw,Rx]
    exact⟨ow',x',w',g4,.inr ⟨i,rfl,g0,g1,g2,g3⟩⟩
theorem aW(n:Nat):J8 (AV.cells (.ptr none)) n=List.replicate n (AV.ptr none):=by
  induction n with
  | zero=>rfl
  | succ n ih =>
    show AV.cells (.ptr none)++J8 _ n=_
    rw[ih,me];rfl
theorem BO.clear  {ow : Ow} {T : BT}  {s : AG}  {v : AV} {cs : List AV} (h : BO  ow T s v cs) {k : Nat} (hk : k ≤ cs.length) :
    ∃s',DO Try.prog s [89] [Dw v k]=some (BE,s')∧BO ow T s' v (cs.take k++List.replicate (cs.length - k) (.ptr none))∧AH (· = T) ow s ow s'∧s'.next=s.next:=by
  have z92:=SQ
  rcases mJ (cs.length - k)with h0 | hpos
  · have hkl:k=cs.length:=by omega
    refine⟨s,?_,?_,AH.refl _ _ _,rfl⟩
    · rcases h with ⟨rfl, rfl⟩ | ⟨i, o, cap, r, rfl, _⟩
      · have:k=0:=by simpa using hk
        subst this
        simp[Dw,DO,Try.underlying89]
      · cases cap with
        | none=>simp[Dw,DO,Try.underlying89,h0]
        | some c=>simp[Dw,DO,Try.underlying89,h0]
    · rw[h0,hkl,lz]
      simpa using h
  · rcases h with ⟨rfl, rfl⟩ | ⟨i, o, cap, r, rfl, hm, h3, h4, h5⟩
    · simp at hpos
    · have hlen:(List.replicate (cs.length - k) (AV.ptr none)).length=cs.length - k:=mQ
      obtain⟨s',g1,g2,g3,g4⟩:=hm.store (o:=o+k * 1) (vs:=List.replicate (cs.length - k) (.ptr none)) (by intro e;have:=congrArg List.length e;simp at this;omega) (by rw[hlen];omega) (by
        have:∀n,A7 (List.replicate n (AV.ptr none))=true:=fun n=>by
          induction n with
          | zero=>rfl
          | succ n ih=>rw[me];simp[A7,ih];rfl
        exact this _)
      have hl2:(cs.take k++List.replicate (cs.length - k) (AV.ptr none)).length=cs.length:=by simp;omega
      have hcl:∀cap',DO Try.prog s [89] [.slice (some (i,o+k * 1)) (cs.length - k) cap']=some (BE,s'):=fun cap'=>by
        have hne:cs.length - k≠0:=by omega
        obtain⟨m,hm'⟩:=Nat.exists_eq_succ_of_ne_zero hne
        have hst:B7 s i (o+k * 1) (J8 (AV.cells (.ptr none)) (cs.length - k))=some s':=by rw[aW];exact g1
        rw[hm']at hst ⊢
        simp only[DO,Try.underlying89,z92,Option.bind_some,hst]
      refine⟨s',?_,.inr ⟨i,o,cap,_,by rw[hl2],g2,fun j u hj=>?_,by rw[hl2];exact h4,?_⟩,g3,g4⟩
      · cases cap with
        | none=>exact hcl none
        | some c =>
          have hck:Nat.beq c k=false:=Di (by have:=h5.1;omega)
          simp only[Dw,hck,cond_false]
          exact hcl _
      · show(Ag.fill r.c (o+k * 1) (List.replicate (cs.length - k) (.ptr none))).get (o+j)=some u
        rw[Ag.get_fill]
        rcases ks j k with q | q
        · rw [lG                        (by rw [lI];               omega), lk                       q] at hj
          rw[if_neg (fun z=>by have:=z.1;omega)]
          exact h3 j u hj
        · rw[lL (by rw[lI];omega),lI,show min k cs.length=k by omega]at hj
          have:=Af hj
          rw[hlen]at this
          rw[if_pos ⟨by omega,by rw[hlen];omega⟩,show o+j - (o+k * 1)=j - k by omega]
          exact hj
      · cases cap with
        | none=>exact h5
        | some c=>exact⟨by rw[hl2];exact h5.1,h5.2⟩
theorem Ac.clear_cut{ow:Ow}{s:AG}{p:Nat}{x:Sf}{v:Sv}(h:Ac ow s p x v){k:Nat}(hk:k≤v.learned.length):
  ∃s',DO Try.prog s [89] [Dw x.l k]=some (BE,s')∧Ai Try.prog 89 false true false s' [x.l,iv (k:Int)]=some (FE x.l k)∧AH (· = (p,3,0)) ow s ow s'∧s'.next=s.next ∧
   ∀s'',s''.next=s'.next→(∀j,j≠p→s''.heap.get j=s'.heap.get j)→s''.heap.get p=s'.heap.get p→∃s3,AN Try.prog s'' 89 (.ptr (some (p,1))) (FE x.l k)=some s3∧Ac ow s3 p { x with l:=FE x.l k } { v with learned:=v.learned.take k }∧AH (BI p) ow s ow s3:=by
 have hkm:k≤(v.learned.map AJ).length:=by rw[kn];exact hk
 obtain⟨s',g1,g2,g3,g4⟩:=h.learned.clear hkm
 have hl:=h.lt
 have hm:∀a i,a≠3→¬ ((p,a,i):BT)=(p,3,0):=fun a i ha=>CA ha
 have hle:k≤((v.learned.map AJ).take k++List.replicate ((v.learned.map AJ).length - k) (AV.ptr none)).length:=by simp;omega
 have hcut:=g2.cut hle
 have htk:((v.learned.map AJ).take k++List.replicate ((v.learned.map AJ).length - k) (AV.ptr none)).take k=(v.learned.take k).map AJ:=by
  rw[lV (by simp;omega),mW,Nat.min_self,mL]
 rw[htk]at hcut
 refine⟨s',g1,g2.cut_op Try.underlying89 El hle,g3,g4,fun s'' hn hf hp=>?_⟩
 have hsame:∀j,s''.heap.get j=s'.heap.get j:=fun j=>by
  by_cases e:j=p
  ·rw[e];exact hp
  ·exact hf j e
 have st2:AH (fun _=>False) ow s' ow s'':=⟨by omega,fun _ _ _=>rfl,fun j _ _=>hsame j⟩
 have hbox:=(h.box.step g3 h.tag h.lt (hm 0 0 (by decide))).keep (hsame p)
 have hcut2:=hcut.step st2 (fun q=>q)
 obtain⟨s3,k1,k2,k3,k4⟩:=hbox.store (k:=1) (d:=FE x.l k) (by simp) (t:=89) EB hcut2.isCell.1 hcut2.isCell.2
 have st3:AH (· = (p,0,0)) ow s'' ow s3:=⟨by omega,fun _ _ _=>rfl,fun j _ hj=>k4 j fun e=>hj (by rw[e];exact h.tag)⟩
 have hm0:∀a i,a≠0→¬ ((p,a,i):BT)=(p,0,0):=fun a i ha=>CA ha
 have stt:AH (fun t=>t=(p,3,0)∨t=(p,0,0)) ow s ow s3:=((g3.mono fun _ q=>Or.inl q).trans (st2.mono fun _ q=>q.elim)).trans (st3.mono fun _ q=>Or.inr q)
 have hmm:∀a i,a≠0→a≠3→¬ (((p,a,i):BT)=(p,3,0)∨((p,a,i):BT)=(p,0,0)):=fun a i h0 h3 q=>q.elim (hm a i h3) (hm0 a i h0)
 refine⟨s3,k1,{ box:=k2,tag:=h.tag,lt:=by omega,w:=h.w.step stt (hmm 1 0 (by decide) (by decide)) (fun j=>hmm 2 j (by decide) (by decide)),learned:=hcut2.step st3 (hm0 3 0 (by decide)),value:=h.value.step stt (hmm 4 0 (by decide) (by decide)),level:=h.level.step stt (hmm 5 0 (by decide) (by decide)),why:=h.why.step stt (hmm 6 0 (by decide) (by decide)),heat:=h.heat.step stt (hmm 7 0 (by decide) (by decide)),phase:=h.phase.step stt (hmm 8 0 (by decide) (by decide)),trail:=h.trail.step stt (hmm 9 0 (by decide) (by decide)),limits:=h.limits.step stt (hmm 10 0 (by decide) (by decide)),model:=h.model.step stt (hmm 11 0 (by decide) (by decide)),trace:=h.trace.step stt (hmm 12 0 (by decide) (by decide)) (hmm 13 0 (by decide) (by decide)),cls:=fun c l hc=>(h.cls c l hc).step stt (hmm 14 c (by decide) (by decide)) (hmm 15 c (by decide) (by decide)) },stt.mono fun t ht=>?_⟩
 rcases ht with e | e<;>rw[e]<;>exact⟨rfl,by simp,by simp,by simp⟩
theorem TO{a:Int}(h:0≤a∧a≤100000000):AM Try.prog .quo 3 (iv a) (iv 8)=some (iv (a / 8)):=by
 obtain⟨h1,h2⟩:=h
 have e:IntKind.i64.wrap (a.tdiv 8)=a / 8:=by
  rw[← Fq,Int.tdiv_eq_ediv_of_nonneg h1]
  exact EP ⟨by omega,by omega⟩
 show AI (Bb .i64 .i64) ((EX Try.prog (Op.intDiv .quo .i64 a 8)).bind ofValue)=_
 have hk:Bb .i64 .i64=true:=rfl
 rw[hk]
 unfold Op.intDiv
 rw[if_neg (by decide)]
 dsimp only
 rw[e]
 rfl
theorem UH{A:List Nat}{i j c:Nat}{Ls:List Nat}(hl:A.length=Ls.length)(hij:i<j)(hj:j≤Ls.length)(hd:A.drop j=Ls.drop j):(A.set i c).take (i+1)=A.take i++[c]∧(A.set i c).drop j=Ls.drop j∧(A.set i c).length=Ls.length:=by
 refine⟨?_,?_,by rw[kv];exact hl⟩
 ·apply List.ext_getElem?
  intro m
  rcases mM m i with q | q | q
  ·rw[lk (by omega),md (by omega),lG (by rw[lI];omega),lk q]
  ·subst q
   rw[lk (by omega),List.getElem?_set_self (by omega),lL (by rw[lI];omega),lI,show m - min m A.length=0 by omega]
   rfl
  ·rw[lQ (by rw[lI,kv];omega),lQ (by rw[kr,lI];simp;omega)]
 ·rw[← hd]
  apply List.ext_getElem?
  intro m
  rw[lX,lX,md (by omega)]
theorem Xh       {E : BJ}  (hE : Good E) {p B N n : Nat} {xl : AV} {Ls : List Nat} (hn : n < 100000000) (hl : Ls.length ≤ 1000000) {ow0 : Ow} {s0 : AG}  {R : Sv × List Nat} {Q : Ar   → Prop} (x2 x6 : AV)
    (hq:∀s' ow' x' w A i y5 y7 y8,i≤A.length→SR ow' s' p x' xl w A B N Ls.length→R=(w,A.take i)→AH (EM p) ow0 s0 ow' s'→Q ⟨.exit 0,[xl,.func 97 [] [.ptr (some (B,0)),.ptr (some (N,0))],x2,iv (i:Int),iv (Ls.length:Int),y5,x6,y7,y8],[],s'⟩):
    ∀ (l:List Nat) (j i:Nat) (s:AG) (ow:Ow) (x:Sf) (w:Sv) (A:List Nat) (x5 x7 x8:AV),Ls.drop j=l→j≤Ls.length→i<j→A.length=Ls.length→A.drop j=Ls.drop j→SR ow s p x xl w A B N j→Hl n Ls j w→R=((BS l j w).1,A.take i++(BS l j w).2)→AH (EM p) ow0 s0 ow s →
      WC E none (.loop Kf) Q [xl,.func 97 [] [.ptr (some (B,0)),.ptr (some (N,0))],x2,iv (i:Int),iv (j:Int),x5,x6,x7,x8] [] s:=by
  intro l
  induction l with
  | nil =>
    intro j i s ow x w A x5 x7 x8 hd hj hij hAl hAd hD hI hR hst
    have:=Fd hd hj
    subst this
    have hbuf:=hD.sat.learned
    rw[hD.xl]at hbuf
    have ln:∀s,A6 Try.prog s 89 xl=some (iv (Ls.length:Int)):=fun s=>by
      have:=hbuf.len Try.underlying89 s
      rw[kn]at this
      rw[this]
      show some (iv ((A.length:Nat):Int))=_
      rw[hAl]
    refine WC.loop' ?_
    simp only[Kf,XK,ln,lT,decide_false,Qa,Qb,Qc,Qd,Qe,Qf,Qg,Qh,Qi,Qj,Qk,Ql,Qm,Qn,true_and,and_true,Qo,Qp,Qq,Qr,Qs,Qt,Qu,Qv,Qw,Qx,Qy,Qz,Ra,Rb,Rc,Rd,Re,Rf,Rg,Rh,Ri,Rj,Rk,Rl,Rm,Ya,Yb,Yc,Rn,Ro,Rp,Yd,Ye,Rq,Rs,Rt,Ru,Rv,Rw,Rx]
    refine hq s ow x w A i _ _ _ (by omega) hD ?_ hst
    rw[hR]
    simp[BS]
  | cons c l ih =>
    intro j i s ow x w A x5 x7 x8 hd hj hij hAl hAd hD hI hR hst
    obtain⟨hlt,hx,hd'⟩:=DP hd
    have hjj:decide ((j:Int)<(Ls.length:Int))=true:=decide_eq_true (by omega)
    have e3:=Ao Try.prog 3 (j:Int) 1 ⟨by omega,by omega⟩
    have hcast:((j:Int)+1)=((j+1:Nat):Int):=by omega
    have e4:=Ao Try.prog 3 (i:Int) 1 ⟨by omega,by omega⟩
    have hcast2:((i:Int)+1)=((i+1:Nat):Int):=by omega
    have hxA:A[j]? = some c:=by
      have h1:(A.drop j)[0]? = (Ls.drop j)[0]? := by rw[hAd]
      rw[lX,lX,mI]at h1
      rw[h1];exact hx
    have hAd':A.drop (j+1)=Ls.drop (j+1):=by
      have:=congrArg (List.drop 1) hAd
      rw[mB,mB]at this
      exact this
    have hbuf:=hD.sat.learned
    rw[hD.xl]at hbuf
    have ln:∀s,A6 Try.prog s 89 xl=some (iv (Ls.length:Int)):=fun s=>by
      have:=hbuf.len Try.underlying89 s
      rw[kn]at this
      rw[this]
      show some (iv ((A.length:Nat):Int))=_
      rw[hAl]
    have i1:=hbuf.addr Try.underlying89 El (k:=j) (by rw[kn];show j<A.length;omega)
    have i2:=hbuf.get (t:=92) KK (k:=j) (u:=AJ c) (by rw[lg];show(A[j]?).map AJ=_;rw[hxA];rfl)
    have hone:=hD.one hE hn hI hlt hl (kq hx)
    simp only[AJ]at hone i2
    refine WC.loop' ?_
    generalize hW:WC E none (Aa.loop Kf) Q=W at ih ⊢
    simp only[Kf,XK,ln,hjj,dy,i1,i2,dz,lZ,mE,mN,Qa,Qb,Qc,Qd,Qe,Qf,Qg,Qh,Qi,Qj,Qk,Ql,Qm,Qn,true_and,and_true,Qo,Qp,Qq,Qr,Qs,Qt,Qu,Qv,Qw,Qx,Qy,Qz,Ra,Rb,Rc,Rd,Re,Rf,Rg,Rh,Ri,Rj,Rk,Rl,Rm,Ya,Yb,Yc,Rn,Ro,Rp,Yd,Ye,Rq,Rs,Rt,Ru,Rv,Rw,Rx]
    refine hone.mono ?_
    rintro _ s' ⟨ow',x',rfl,g1,g2⟩
    have hst':=hst.trans g2
    cases hg:C4 w c (j+1)with
    | true =>
      simp only[RD,e3,hcast,Qa,Qb,Qc,Qd,Qe,Qf,Qg,Qh,Qi,Qj,Qk,Ql,Qm,Qn,true_and,and_true,Qo,Qp,Qq,Qr,Qs,Qt,Qu,Qv,Qw,Qx,Qy,Qz,Ra,Rb,Rc,Rd,Re,Rf,Rg,Rh,Ri,Rj,Rk,Rl,Rm,Ya,Yb,Yc,Rn,Ro,Rp,Yd,Ye,Rq,Rs,Rt,Ru,Rv,Rw,Rx]
      refine ih (j+1) i s' ow' x' (CE w c (j+1)) A _ _ _ hd' hlt (by omega) hAl hAd' g1 (hI.step hlt c _) ?_ hst'
      rw[hR]
      simp[BS,hg]
    | false =>
      obtain⟨q1,q2,q3⟩:=UH (A:=A) (i:=i) (c:=c) (j:=j+1) (Ls:=Ls) hAl (by omega) hlt hAd'
      have hb':=g1.sat.learned
      rw[g1.xl]at hb'
      have i3:=hb'.addr Try.underlying89 El (k:=i) (by rw[kn];show i<A.length;omega)
      obtain⟨s2,k1,k2,k3,k4⟩:=g1.sat.put_learned (k:=i) (by show i<A.length;omega) c
      rw[g1.xl]at k1
      simp only[AJ]at k1
      have k2:Ac ow' s2 p x' { CE w c (j+1)with learned:=A.set i c }:=k2
      have hn3:∀a,a=21∨a=24→¬ ((p,a,0):BT)=(p,3,0):=fun a ha e=>by
        injection e with _ e
        injection e with e _
        omega
      have g1':SR ow' s2 p x' xl (CE w c (j+1)) (A.set i c) B N (j+1):=⟨k2,g1.xl,g1.hB.keep (k3.heap B g1.lB (by rw[g1.tB];exact hn3 21 (.inl rfl))),g1.tB,by rw[k4];exact g1.lB,g1.hN.keep (k3.heap N g1.lN (by rw[g1.tN];exact hn3 24 (.inr rfl))),g1.tN,by rw[k4];exact g1.lN⟩
      have st2:AH (EM p) ow' s' ow' s2:=k3.mono fun t ht=>by rw[ht];exact .inl ⟨rfl,by simp,by simp,by simp⟩
      simp only[d6,i3,BU,k1,AX,d7,e4,hcast2,RD,e3,hcast,Qa,Qb,Qc,Qd,Qe,Qf,Qg,Qh,Qi,Qj,Qk,Ql,Qm,Qn,true_and,and_true,Qo,Qp,Qq,Qr,Qs,Qt,Qu,Qv,Qw,Qx,Qy,Qz,Ra,Rb,Rc,Rd,Re,Rf,Rg,Rh,Ri,Rj,Rk,Rl,Rm,Ya,Yb,Yc,Rn,Ro,Rp,Yd,Ye,Rq,Rs,Rt,Ru,Rv,Rw,Rx]
      refine ih (j+1) (i+1) s2 ow' x' (CE w c (j+1)) (A.set i c) _ _ _ hd' hlt (by omega) q3 q2 g1' (hI.step hlt c _) ?_ (hst'.trans st2)
      rw[hR,q1]
      simp[BS,hg]
def hH(ow0:Ow)(s0:AG)(p B:Nat)(R:Sv×List Nat)(r:AV)(s':AG):Prop:=
 r.isCell=true∧r.cells=[r]∧Ak s' B (AJ p)∧∃s3 ow' x',AN Try.prog s' 89 (.ptr (some (p,1))) r=some s3∧Ac ow' s3 p x' { R.1 with learned:=R.2 }∧AH (EM p) ow0 s0 ow' s3
theorem gX{E:BJ}(hE:Good E){ow:Ow}{s:AG}{p:Nat}{x:Sf}{xl:AV}{w:Sv}{Ls:List Nat}{B N n:Nat}(h:SR ow s p x xl w Ls B N 0)(hn:n<100000000)(hI:Hl n Ls 0 w)(hl:Ls.length≤1000000):
    WF E 96 [xl,.func 97 [] [.ptr (some (B,0)),.ptr (some (N,0))]] (hH ow s p B (BS Ls 0 w)) s:=by
  refine hE.go gS (by decide) rfl ?_
  simp only[ki,du,dv,Qa,Qb,Qc,Qd,Qe,Qf,Qg,Qh,Qi,Qj,Qk,Ql,Qm,Qn,true_and,and_true,Qo,Qp,Qq,Qr,Qs,Qt,Qu,Qv,Qw,Qx,Qy,Qz,Ra,Rb,Rc,Rd,Re,Rf,Rg,Rh,Ri,Rj,Rk,Rl,Rm,Ya,Yb,Yc,Rn,Ro,Rp,Yd,Ye,Rq,Rs,Rt,Ru,Rv,Rw,Rx]
  refine(gY hE h hn hI hl).mono ?_
  rintro _ s1 ⟨ow1,x1,w1,st1,⟨rfl,g1,g2⟩ | ⟨i,rfl,g0,g1,g2,g3⟩⟩
  · have d1:decide ((-1:Int)=-1)=true:=rfl
    simp only[XJ,d1,dw,Qa,Qb,Qc,Qd,Qe,Qf,Qg,Qh,Qi,Qj,Qk,Ql,Qm,Qn,true_and,and_true,Qo,Qp,Qq,Qr,Qs,Qt,Qu,Qv,Qw,Qx,Qy,Qz,Ra,Rb,Rc,Rd,Re,Rf,Rg,Rh,Ri,Rj,Rk,Rl,Rm,Ya,Yb,Yc,Rn,Ro,Rp,Yd,Ye,Rq,Rs,Rt,Ru,Rv,Rw,Rx]
    have hb:=g1.sat.learned
    obtain⟨s3,k1,k2,k3,k4⟩:=g1.sat.set_learned (u:=xl) (y:=Ls) (by rw[← g1.xl];exact hb)
    rw[g2]
    exact⟨by rw[← g1.xl];exact hb.isCell.1,by rw[← g1.xl];exact hb.isCell.2,g1.hB,s3,ow1,_,k1,k2,st1.trans k3.bD⟩
  · have d1 : decide ((i : Int) = -1) = false := decide_eq_false (by omega)
    have e4:=Ao Try.prog 3 (i:Int) 1 ⟨by omega,by omega⟩
    have hcast2:((i:Int)+1)=((i+1:Nat):Int):=by omega
    simp only[XJ,d1,dx,e4,hcast2,Qa,Qb,Qc,Qd,Qe,Qf,Qg,Qh,Qi,Qj,Qk,Ql,Qm,Qn,true_and,and_true,Qo,Qp,Qq,Qr,Qs,Qt,Qu,Qv,Qw,Qx,Qy,Qz,Ra,Rb,Rc,Rd,Re,Rf,Rg,Rh,Ri,Rj,Rk,Rl,Rm,Ya,Yb,Yc,Rn,Ro,Rp,Yd,Ye,Rq,Rs,Rt,Ru,Rv,Rw,Rx]
    refine Xh hE hn hl (ow0:=ow) (s0:=s) (R:=BS Ls 0 w) _ _ ?_ (Ls.drop (i+1)) (i+1) i s1 ow1 x1 w1 Ls _ _ _ rfl g0 (by omega) rfl rfl g1 g2 g3 st1
    intro s2 ow2 x2 w2 A m y5 y7 y8 hm q1 q2 q3
    have hkm:m≤(A.map AJ).length:=by rw[kn];exact hm
    have hbuf:=q1.sat.learned
    have hrest:=(hbuf.rest Try.underlying89 El (k:=m) hkm).1
    obtain⟨s3,c1,c2,c3,c4,c5⟩:=q1.sat.clear_cut (k:=m) hm
    rw[q1.xl]at hrest c1 c2
    have hn3:¬ ((p,21,0):BT)=(p,3,0):=fun e=>by injection e with _ e;injection e with e _;cases e
    have hB3:Ak s3 B (AJ p):=q1.hB.keep (c3.heap B q1.lB (by rw[q1.tB];exact hn3))
    obtain⟨s4,d1,d2,d3⟩:=c5 s3 rfl (fun _ _=>rfl) rfl
    simp only[if_true,XH,hrest,c1,XI,c2,Qa,Qb,Qc,Qd,Qe,Qf,Qg,Qh,Qi,Qj,Qk,Ql,Qm,Qn,true_and,and_true,Qo,Qp,Qq,Qr,Qs,Qt,Qu,Qv,Qw,Qx,Qy,Qz,Ra,Rb,Rc,Rd,Re,Rf,Rg,Rh,Ri,Rj,Rk,Rl,Rm,Ya,Yb,Yc,Rn,Ro,Rp,Yd,Ye,Rq,Rs,Rt,Ru,Rv,Rw,Rx]
    have hcell:(FE xl m).isCell=true∧(FE xl m).cells=[FE xl m]:=by
      have:=d2.learned.isCell
      rw[← q1.xl]
      exact this
    rw[q1.xl]at d1
    refine⟨hcell.1,hcell.2,hB3,s4,ow2,{ x2 with l:=FE x2.l m },d1,?_,q3.trans d3.bD⟩
    rw[q2]
    exact d2
theorem RJ{E:BJ}(hE:Good E){ow:Ow}{s:AG}{p:Nat}{x:Sf}{v:Sv}(h:Ac ow s p x v){n:Nat}(hn:n<100000000)(hr:v.room≤(v.learned.length:Int))(hr0:0≤v.room∧v.room≤100000000)(hI:Hl n v.learned 0 v)(hl:v.learned.length≤1000000):
  WF E 69 [AJ p] (fun _ s'=>∃ow' x',Ac ow' s' p x' (G8 v)∧AH (EM p) ow s ow' s') s:=by
 have hptr:∀i,Made.val i .ptr=.ptr (some (i,0)):=fun _=>rfl
 have hbox:DD 44 (AV.ptr (some (p,0)))=some (AO 44 0 [AJ p],.ptr):=by simp[DD,AJ,AV.cells]
 have hst:AH (fun _=>False) ow s (ext ow s.next (p,21,0)) (newObj s (AO 44 0 [AJ p])):=AH.new _ ow s _ _
 have h1:=h.keep hst (fun _ q=>q.elim)
 have b1:Ak (newObj s (AO 44 0 [AJ p])) s.next (AJ p):=Ak.new
 have tB1:(ext ow s.next (p,21,0)) s.next=(p,21,0):=Cn (kp _)
 have lB1:s.next<(newObj s (AO 44 0 [AJ p])).next:=lW _
 have st01:AH (EM p) ow s (ext ow s.next (p,21,0)) (newObj s (AO 44 0 [AJ p])):=hst.mono fun _ q=>q.elim
 generalize hs1:newObj s (AO 44 0 [AJ p])=s1 at *
 generalize how1:ext ow s.next (p,21,0)=ow1 at *
 generalize hB:s.next=B at *
 have l1:=b1.load Dg
 have ln:∀s,A6 Try.prog s 89 x.l=some (iv (v.learned.length:Int)):=fun s=>by
  have:=h1.learned.len Try.underlying89 s
  rw[kn]at this
  exact this
 have hd:decide ((v.learned.length:Int)<v.room)=false:=decide_eq_false (by omega)
 have e1:AM Try.prog .quo 3 (iv v.room) (iv 8)=some (iv (v.room / 8)):=TO hr0
 have hq0:0≤v.room / 8∧v.room / 8≤v.room:=by omega
 have e2:=Ao Try.prog 3 v.room (v.room / 8) ⟨by omega,by omega⟩
 obtain⟨s2,k1,k2,k3,k4⟩:=h1.set_room (v.room+v.room / 8)
 obtain⟨b2,tB2,lB2⟩:=b1.stepB k3 tB1 lB1 (by decide)
 have l2:=b2.load Dg
 have hal:Bv Try.prog 3=some (AO 3 0 [iv 0],.ptr):=by simp[Bv,Pd,AV.cells]
 have st23:AH (fun _=>False) ow1 s2 (ext ow1 s2.next (p,24,0)) (newObj s2 (AO 3 0 [iv 0])):=AH.new _ ow1 s2 _ _
 have h3:=k2.keep st23 (fun _ q=>q.elim)
 have c3:Ak (newObj s2 (AO 3 0 [iv 0])) s2.next (iv 0):=Ak.new
 have tN3:(ext ow1 s2.next (p,24,0)) s2.next=(p,24,0):=Cn (kp _)
 have lN3:s2.next<(newObj s2 (AO 3 0 [iv 0])).next:=lW _
 obtain⟨b3,tB3,lB3⟩:=b2.stepB (st23.mono fun _ q=>q.elim) tB2 lB2 (by decide)
 have st3D:AH (EM p) ow1 s2 (ext ow1 s2.next (p,24,0)) (newObj s2 (AO 3 0 [iv 0])):=st23.mono fun _ q=>q.elim
 generalize hs3:newObj s2 (AO 3 0 [iv 0])=s3 at *
 generalize how3:ext ow1 s2.next (p,24,0)=ow3 at *
 generalize hN:s2.next=N at *
 obtain⟨s4,f1,f2,f3,f4⟩:=c3.store (d:=iv ((0:Nat):Int)) (t:=3) Be rfl rfl
 have f1:AN Try.prog s3 3 (.ptr (some (N,0))) (iv 0)=some s4:=f1
 have st4:AH (· = (p,24,0)) ow3 s3 ow3 s4:=⟨by omega,fun _ _ _=>rfl,fun j _ hj=>f4 j fun e=>hj (by rw[e];exact tN3)⟩
 have h4:=h3.keep16 st4 (fun a i ha q=>by injection q with _ q;injection q with q;omega)
 have hBN:B≠N:=fun e=>by rw[e,tN3]at tB3;injection tB3 with _ q;injection q with q;cases q
 have b4:Ak s4 B (AJ p):=b3.keep (f4 B hBN)
 have l4:=b4.load Dg
 have hD:SR ow3 s4 p x x.l { v with room:=v.room+v.room / 8 } v.learned B N 0:=⟨h4,rfl,b4,tB3,by omega,f2,tN3,by omega⟩
 have hdel:=gX hE hD hn (Ls:=v.learned) ⟨hI.why,hI.whc,hI.cls,hI.trc⟩ hl
 have ld1:=h1.ld_l
 have ld2:=h1.ld_room
 have ld4:=h4.ld_l
 have eqp:∀a:Nat×Nat,Fs (.ptr (some a)) (.ptr (some a))=true:=fun a=>by obtain⟨i,o⟩:=a;simp[Fs]
 have stA:AH (EM p) ow s ow3 s4:=((st01.trans k3.bD).trans st3D).trans (st4.mono fun t ht=>.inr ht)
 refine hE.go Xa (by decide) rfl ?_
 simp only[AJ]at hbox l1 l2 l4 hs1
 simp only[jr,Wr,Ws,AJ,hbox,hptr,hs1,hB,l1,AF,NL,St,ld1,ld2,ln,hd,co,e1,e2,BU,k1,AX,cq,hal,hs3,hN,f1,cu,l4,ld4,mC,lq,Qa,Qb,Qc,Qd,Qe,Qf,Qg,Qh,Qi,Qj,Qk,Ql,Qm,Qn,true_and,and_true,Qo,Qp,Qq,Qr,Qs,Qt,Qu,Qv,Qw,Qx,Qy,Qz,Ra,Rb,Rc,Rd,Re,Rf,Rg,Rh,Ri,Rj,Rk,Rl,Rm,Ya,Yb,Yc,Rn,Ro,Rp,Yd,Ye,Rq,Rs,Rt,Ru,Rv,Rw,Rx]
 refine hdel.mono ?_
 rintro r s5 ⟨r1,r2,r3,s6,ow6,x6,r4,r5,r6⟩
 have l5:=r3.load Dg
 simp only[AJ]at l5
 simp only[BP,Ap,l5,eqp,AF,NL,BU,r4,AX,Qa,Qb,Qc,Qd,Qe,Qf,Qg,Qh,Qi,Qj,Qk,Ql,Qm,Qn,true_and,and_true,Qo,Qp,Qq,Qr,Qs,Qt,Qu,Qv,Qw,Qx,Qy,Qz,Ra,Rb,Rc,Rd,Re,Rf,Rg,Rh,Ri,Rj,Rk,Rl,Rm,Ya,Yb,Yc,Rn,Ro,Rp,Yd,Ye,Rq,Rs,Rt,Ru,Rv,Rw,Rx]
 exact⟨ow6,x6,r5,stA.trans r6⟩
structure Fv(n:Nat)(F:List (List Int))(J:Sv→Prop):Prop where
 same:∀ {v v':Sv},J v→Bu (C5 v.cl) (C5 v'.cl)→v'.trace=v.trace→v'.broken=v.broken→J v'
 fail:∀ {v:Sv} {h d:Nat} {l:Int},J v→CT n (hide v)→CI n F h (hide v)→v.limits=[]→GG (hide v) d l→lv v l=(v.limits.length:Int)→J (DV v)
 lrn:∀ {v:Sv} {h d:Nat} {l:Int} {r:EJ} {cn:Nat},J v→CT n (hide v)→CI n F h (hide v)→v.limits≠[]→GG (hide v) d l→lv v l=(v.limits.length:Int)→CS (hide v) d HF v.trail.length 0 r→ED (hide v) r→v.cl cn=none→J (EY { v with trace:=v.trace++[(false,AU v r)] } cn (AU v r,true,false))
 drop:∀ {v:Sv} {c:Nat} {ls:List Int},J v→v.broken=false→v.cl c=some (ls,true,false)→2<ls.length→J { v with cl:=AP v.cl c (ls,true,true),trace:=v.trace++[(true,ls)] }
structure Ft(n:Nat)(F:List (List Int))(Ls:List Nat)(v:Sv):Prop where
 inv:Aw n v
 all:∀c ls b,v.cl c=some (ls,b)→A1 n ls
 why:∀d,some d∈v.why→v.cl d≠none
 lrn:∀c∈Ls,∃ls,v.cl c=some (ls,true,false)
 lnd:Ls.Nodup
 cov:∀f∈F,(∃y∈f,-y∈f)∨∃c ls,v.cl c=some (ls,false,false)∧∀y∈ls,y∈f
theorem Ft.cover{n:Nat}{F:List (List Int)}{Ls:List Nat}{v:Sv}(h:Ft n F Ls v):∀f∈F,(∃y∈f,-y∈f)∨∃c ls b,(hide v).cl c=some (ls,b)∧∀y∈ls,y∈f:=fun f hf=>by
 rcases h.cov f hf with q | ⟨c,ls,q1,q2⟩
 ·exact .inl q
 ·exact .inr ⟨c,ls,_,E3 q1 rfl,q2⟩
def IB(v:Sv)(c:Nat)(ls:List Int):Sv:={ v with cl:=AP v.cl c (ls,true,true),trace:=v.trace++[(true,ls)] }
theorem NO{cl:Nat→Option A5}{c d:Nat}{ls:List Int}:C5 (AP cl c (ls,true,true)) d=if d=c then none else C5 cl d:=by
 unfold C5 AP
 by_cases e:d=c
 ·rw[if_pos e,if_pos e];rfl
 ·rw[if_neg e,if_neg e]
theorem Iy{cl:Nat→Option A5}{c d:Nat}{ls:List Int}:A8 (AP cl c (ls,true,true)) d=if d=c then false else A8 cl d:=by
 unfold A8 AP
 by_cases e:d=c
 ·rw[if_pos e,if_pos e];rfl
 ·rw[if_neg e,if_neg e]
theorem Ft.gone{n:Nat}{F:List (List Int)}{c:Nat}{Ls:List Nat}{v:Sv}(h:Ft n F (c::Ls) v){ls:List Int}(hc:v.cl c=some (ls,true,false)):Ft n F Ls (IB v c ls):=by
  have get:∀ {d:Nat} {ms:List Int} {t:Bool×Bool},(IB v c ls).cl d=some (ms,t)→(d=c∧ms=ls∧t=(true,true))∨(d≠c∧v.cl d=some (ms,t)):=fun q=>Bi q
  have put:∀ {d:Nat},d≠c→(IB v c ls).cl d=v.cl d:=fun {d} e=>by
    show AP v.cl c _ d=_
    unfold AP
    rw[if_neg e]
  have hcc:(IB v c ls).cl c=some (ls,true,true):=Aj _ _ _
  obtain⟨hnc,hnd⟩:=mV.1 h.lnd
  obtain⟨⟨hz,hv,hli,hlm⟩,g2,g3,g4,g5⟩:=h.inv
  refine⟨⟨⟨⟨hz.small,hz.w,hz.value,hz.level,hz.why,hz.heat,hz.phase,hz.trail,hz.limits⟩,hv,hli,hlm⟩,g2,g3,g4,fun L hL d hd=>?_⟩,fun d ms t q=>?_,fun d q=>?_,fun d hd=>?_,hnd,fun f hf=>?_⟩
  · obtain⟨ms,t,q1,q2,q3⟩:=g5 L hL d hd
    by_cases e:d=c
    · rw[e,hc]at q1
      injection q1 with q1
      injection q1 with q1 _
      subst q1
      exact⟨ls,(true,true),by rw[e];exact hcc,q2,q3⟩
    · exact⟨ms,t,by rw[put e];exact q1,q2,q3⟩
  · rcases get q with ⟨_, e, _⟩ | ⟨_, q⟩
    · rw[e];exact h.all c ls _ hc
    · exact h.all d ms t q
  · by_cases e : d = c
    · rw[e,hcc];exact fun z=>by cases z
    · rw[put e];exact h.why d q
  · obtain⟨ms,q⟩:=h.lrn d (kz _ hd)
    exact⟨ms,by rw[put fun e=>hnc (e▸hd)];exact q⟩
  · rcases h.cov f hf with q | ⟨d, ms, q1, q2⟩
    · exact .inl q
    · refine .inr ⟨d, ms, ?_, q2⟩
      rw[put fun e=>by rw[e,hc]at q1;injection q1 with q1;injection q1 with _ q1;injection q1 with q1 _;cases q1]
      exact q1
theorem CI.gone {n h : Nat} {F : List (List Int)} {c : Nat} {Ls : List Nat} {v : Sv} (k : CI n F h (hide v)) (ha : Ft   n F (c :: Ls) v) {ls : List Int} (hc : v.cl c = some (ls, true, false)) (hh : ls.any (IC    v c) = false) : CI n F h (hide (IB    v c ls)) := by
  have hg:=ha.gone hc
  refine k.sub hg.inv.hide rfl rfl rfl rfl rfl (fun d l q=>?_) (fun j d q=>?_) (fun j d l q q2=>?_) (fun j=>?_) (fun i x d ms t hx hw hd h0=>?_) hg.cover
  · have q:C5 (AP v.cl c (ls,true,true)) d=some l:=q
    rw[NO]at q
    split at q
    · cases q
    · exact q
  · have q:d∈(C6 (AP v.cl c (ls,true,true)) v.watches).getD j []:=q
    show d∈(C6 v.cl v.watches).getD j []
    rw[E4]at q ⊢
    obtain⟨q1,q2⟩:=List.mem_filter.1 q
    rw[Iy]at q2
    split at q2
    · cases q2
    · exact List.mem_filter.2 ⟨q1,q2⟩
  · have q:d∈(C6 v.cl v.watches).getD j []:=q
    show d∈(C6 (AP v.cl c (ls,true,true)) v.watches).getD j []
    have q2:C5 (AP v.cl c (ls,true,true)) d=some l:=q2
    rw[E4]at q ⊢
    rw[NO]at q2
    obtain⟨q3,q4⟩:=List.mem_filter.1 q
    refine List.mem_filter.2 ⟨q3,?_⟩
    rw[Iy]
    split at q2
    · cases q2
    · rename_i e
      rw[if_neg e];exact q4
  · have hn:((C6 v.cl v.watches).getD j []).Nodup:=k.cw.wnd j
    show((C6 (AP v.cl c (ls,true,true)) v.watches).getD j []).Nodup
    rw[E4]at hn ⊢
    have e:List.filter (A8 (AP v.cl c (ls,true,true))) (v.watches.getD j [])=List.filter (A8 (AP v.cl c (ls,true,true))) (List.filter (A8 v.cl) (v.watches.getD j [])):=by
      rw[List.filter_filter]
      refine List.filter_congr fun d _=>?_
      rw[Iy]
      split
      · rfl
      · simp
    rw[e]
    exact hn.filter _
  · show C5 (AP v.cl c (ls,true,true)) d=some (ms,t)
    rw[NO]
    have hd:C5 v.cl d=some (ms,t):=hd
    rw[if_neg fun e=>?_]
    · exact hd
    · subst e
      obtain⟨q1,q2⟩:=Fh hd
      rw[hc]at q1
      injection q1 with q1
      injection q1 with q1 _
      subst q1
      have hw:v.why.getD x.natAbs none=some d:=hw
      have hne:ls≠[]:=(k.ct.cls d ls t hd).2.1
      have hm:x∈ls:=by
        rw[← h0]
        exact kq (AQ (List.length_pos_iff.2 hne))
      have:ls.any (IC v d)=true:=List.any_eq_true.2 ⟨x,hm,by unfold IC;exact decide_eq_true hw⟩
      rw[hh]at this
      cases this
structure Hm(v v':Sv):Prop where
 watches:v'.watches=v.watches
 learned:v'.learned=v.learned
 why:v'.why=v.why
 trail:v'.trail=v.trail
 limits:v'.limits=v.limits
 head:v'.head=v.head
 broken:v'.broken=v.broken
 model:v'.model=v.model
 many:v'.many=v.many
 room:v'.room=v.room
theorem Hm.refl(v:Sv):Hm v v:=⟨rfl,rfl,rfl,rfl,rfl,rfl,rfl,rfl,rfl,rfl⟩
theorem Hm.trans{a b c:Sv}(h:Hm a b)(k:Hm b c):Hm a c:=
 ⟨k.watches.trans h.watches,k.learned.trans h.learned,k.why.trans h.why,k.trail.trans h.trail,k.limits.trans h.limits,k.head.trans h.head,k.broken.trans h.broken,k.model.trans h.model,k.many.trans h.many,k.room.trans h.room⟩
theorem Xm{v:Sv}{c m:Nat}{ls:List Int}(hc:v.cl c=some (ls,true,false))(hg:C4 v c m=false):CE v c m=v:=by
 unfold CE
 rw[hc]
 dsimp only
 rw[hg,if_neg (by decide),OP hc]
theorem Xl{v:Sv}{c m:Nat}{ls:List Int}(hc:v.cl c=some (ls,true,false))(hg:C4 v c m=true):CE v c m=IB v c ls∧2<ls.length∧ls.any (IC v c)=false:=by
 constructor
 ·unfold CE
  rw[hc]
  dsimp only
  rw[hg,if_pos rfl]
  rfl
 ·unfold C4 at hg
  rw[hc]at hg
  dsimp only at hg
  rw[Bool.and_eq_true,Bool.and_eq_true]at hg
  exact⟨of_decide_eq_true hg.1.2,by simpa using hg.2⟩
theorem Ir        {n h : Nat} {F : List (List Int)} {J : Sv → Prop} (S : Fv     n F J) : ∀ (Ls : List Nat) (m : Nat) (v : Sv), CI n F h (hide v) → Ft   n F Ls v → J v → v.broken = false →
    CI n F h (hide (BS Ls m v).1)∧Ft n F (BS Ls m v).2 (BS Ls m v).1∧J (BS Ls m v).1∧Hm v (BS Ls m v).1∧(BS Ls m v).2.Sublist Ls∧(BS Ls m v).1.trace.length+(BS Ls m v).2.length=v.trace.length+Ls.length∧∀d,d ∉ Ls→(BS Ls m v).1.cl d=v.cl d
  | [],m,v,hci,ha,hj,hb=>⟨hci,ha,hj,Hm.refl v,List.Sublist.refl _,rfl,fun _ _=>rfl⟩
  | c::Ls,m,v,hci,ha,hj,hb=>by
    obtain⟨ls,hc⟩:=ha.lrn c kx
    obtain⟨hnc,hnd⟩:=mV.1 ha.lnd
    unfold BS
    dsimp only
    cases hg:C4 v c (m+1)with
    | false =>
      rw[if_neg (by decide),Xm hc hg]
      obtain⟨i1,i2,i3,i4,i5,i6,i7⟩:=Ir S Ls (m+1) v hci ⟨ha.inv,ha.all,ha.why,fun d hd=>ha.lrn d (kz _ hd),hnd,ha.cov⟩ hj hb
      refine⟨i1,⟨i2.inv,i2.all,i2.why,fun d hd=>?_,?_,i2.cov⟩,i3,i4,i5.cons_cons c,by simp only[lO];omega,fun d hd=>i7 d fun q=>hd (kz _ q)⟩
      · rcases lM.1            hd with e | e
        · rw[e,i7 c hnc];exact⟨ls,hc⟩
        · exact i2.lrn d e
      · exact mV.2 ⟨fun q=>hnc (i5.subset q),i2.lnd⟩
    | true =>
      obtain⟨e,e2,e3⟩:=Xl hc hg
      rw[if_pos rfl,e]
      obtain⟨i1,i2,i3,i4,i5,i6,i7⟩:=Ir S Ls (m+1) (IB v c ls) (hci.gone ha hc e3) (ha.gone hc) (S.drop hj hb hc e2) hb
      refine⟨i1,i2,i3,Hm.trans (b:=IB v c ls) ⟨rfl,rfl,rfl,rfl,rfl,rfl,rfl,rfl,rfl,rfl⟩ i4,i5.cons c,?_,fun d hd=>?_⟩
      · have e4:(IB v c ls).trace.length=v.trace.length+1:=by
          show(v.trace++[_]).length=_
          rw[kr];rfl
        rw[i6,e4,lO]
        omega
      · rw[i7 d fun q=>hd (kz _ q)]
        show AP v.cl c _ d=_
        unfold AP
        rw[if_neg fun e=>hd (by rw[e];exact kx)]
structure FY(n most:Nat)(I:Nat→Sv→Prop)(R:Int→Sv→Prop):Prop where
 ok:∀ {k v},I k v→k≤most∧FW n 50000000 v
 brk:∀ {k v},I k v→v.broken=true→R 0 v
 mid:∀ {k v c v1},I k v→v.broken=false→Bl v c v1→v1.trace.length≤1000000∧v1.learned.length≤100000000∧(∀c ls b,v1.cl c=some (ls,b)→A1 n ls)∧∀b,1≤b→b≤n→v1.phase.getD b 0=1∨v1.phase.getD b 0=-1
 fail:∀ {k v c v1},I k v→v.broken=false→Bl v (some c) v1→v1.limits=[]→R 0 (DV v1)
 unk:∀ {k v c v1},I k v→v.broken=false→Bl v (some c) v1→v1.limits≠[]→most≤k→R 2 (AW v1 0)
 lrn:∀ {k v c v1},I k v→v.broken=false→Bl v (some c) v1→v1.limits≠[]→k<most→∃r,CS v1 c HF v1.trail.length 0 r∧A1 n (AU v1 r)∧0≤r.lev∧r.lev<100000000 ∧
  ∀h cn,h.length=v1.heat.length→v1.cl cn=none→I (k+1) (Ax (AW (At (Bh v1) h) r.lev.toNat) cn (AU v1 r))
 cool:∀ {k v v1},I k v→v.broken=false→Bl v none v1→∀h,h.length=v1.heat.length→(((AW (At v1 h) 0).learned.length:Int)<(AW (At v1 h) 0).room→I k (AW (At v1 h) 0)) ∧
  ((AW (At v1 h) 0).room≤((AW (At v1 h) 0).learned.length:Int)→I k (G8 (AW (At v1 h) 0))∧(0≤(AW (At v1 h) 0).room∧(AW (At v1 h) 0).room≤100000000)∧Hl n (AW (At v1 h) 0).learned 0 (AW (At v1 h) 0)∧(AW (At v1 h) 0).learned.length≤1000000)
 maybe:∀ {k v v1},I k v→v.broken=false→Bl v none v1→(∀j,1≤j→j<n+1→v1.value.getD j 0≠0)→R 1 (F6 v1)
 dec:∀ {k v v1 b},I k v→v.broken=false→Bl v none v1→1≤b→b≤n→v1.value.getD b 0=0→I k (Cg v1 b)
theorem PP          {E : BJ}  (hE : Good E) {n most : Nat} {I : Nat → Sv → Prop} {R : Int → Sv → Prop} (hl : FY        n most I R) (hn : n ≤ 500000) (hmost : most ≤ 1000000) {p k u : Nat} (hu : u ≤ 100000000) {ow0 : Ow} {s0 : AG}  {ow : Ow} {s : AG}  {x : Sf} {v : Sv} (h : Ac  ow s p x v) (hI : I k v) (hst : AH   (BN   p) ow0 s0 ow s) {Q : Ar   → Prop} {x5 x6 x7 x8 x9 x10 x11 x12 x13 : AV}
    (hend:∀s' ow' x' v' y5 y6 y7 y8 y9 y10 y11 y12 y13 k' u',R 0 v'→Ac ow' s' p x' v'→AH (BN p) ow0 s0 ow' s'→Q ⟨.exit 0,[AV.ptr (some (p,0)),iv (most:Int),iv 0,u',k',y5,y6,y7,y8,y9,y10,y11,y12,y13],[],s'⟩)
    (hret:∀s' ow' x' v' r y3 y4 y5 y6 y7 y8 y9 y10 y11 y12 y13,R r v'→Ac ow' s' p x' v'→AH (BN p) ow0 s0 ow' s'→Q ⟨.ret,[AV.ptr (some (p,0)),iv (most:Int),iv r,y3,y4,y5,y6,y7,y8,y9,y10,y11,y12,y13],[],s'⟩)
    (hnext:∀s' ow' x' v' k' u' y5 y6 y8 y9 y10 y11 y12 y13,I k' v'→(k<k'∧u'=u∨k'=k∧u≤k∧u'=u+32∨k'=k∧u'=u∧v.trail.length<v'.trail.length)→Ac ow' s' p x' v'→AH (BN p) ow0 s0 ow' s'→WC E none (.loop C9) Q [AV.ptr (some (p,0)),iv (most:Int),iv 0,iv (u':Int),iv (k':Int),y5,y6,x7,y8,y9,y10,y11,y12,y13] [] s'):
    WC E none (.loop C9) Q [AV.ptr (some (p,0)),iv (most:Int),iv 0,iv (u:Int),iv (k:Int),x5,x6,x7,x8,x9,x10,x11,x12,x13] [] s:=by
  have hbr:∀ {ow:Ow} {s:AG} {x:Sf} {v:Sv} {y5 y6 y8 y9 y10 y11 y12 y13:AV},Ac ow s p x v→v.broken=true→R 0 v→AH (BN p) ow0 s0 ow s→WC E none (.loop C9) Q [AV.ptr (some (p,0)),iv (most:Int),iv 0,iv (u:Int),iv (k:Int),y5,y6,x7,y8,y9,y10,y11,y12,y13] [] s:=
    fun h hb hR hst=>Ia hE h hb fun y8=>hend _ _ _ _ _ _ _ _ _ _ _ _ _ _ _ hR h hst
  cases hb:v.broken with
  | true=>exact hbr h hb (hl.brk hI hb) hst
  | false =>
    have ld:=h.ld_broken
    rw[hb]at ld
    obtain⟨hk,hi2⟩:=hl.ok hI
    refine WC.loop' ?_
    generalize hW:WC E none (Aa.loop C9) Q=W at hnext hbr
    simp only[C9,Sb,AF,F4,ld,V7,Qa,Qb,Qc,Qd,Qe,Qf,Qg,Qh,Qi,Qj,Qk,Ql,Qm,Qn,true_and,and_true,Qo,Qp,Qq,Qr,Qs,Qt,Qu,Qv,Qw,Qx,Qy,Qz,Ra,Rb,Rc,Rd,Re,Rf,Rg,Rh,Ri,Rj,Rk,Rl,Rm,Ya,Yb,Yc,Rn,Ro,Rp,Yd,Ye,Rq,Rs,Rt,Ru,Rv,Rw,Rx]
    refine(IQ hE h (B:=50000000) (kp _) hi2).mono ?_
    rintro _ s1 ⟨c,v1,ow1,x1,hp,rfl,h1,st1⟩
    obtain⟨m1,m2,m4,m5⟩:=hl.mid hI hb hp
    obtain⟨hi1,hlim⟩:=hp.keep hi2
    have hf1:=hi1.inv.fit
    have hz1:=hf1.siz
    have htr:=hp.trail
    have stA:=hst.trans st1
    have hlimB:∀s,A6 Try.prog s 23 x1.lim=some (iv (v1.limits.length:Int)):=fun s=>by
      have:=h1.limits.len Try.underlying23 s
      rw[kn]at this
      exact this
    cases c with
    | some c =>
      simp only[N5,Is,Option.isSome,V8,AF,Ge,h1.ld_lim,hlimB,Qa,Qb,Qc,Qd,Qe,Qf,Qg,Qh,Qi,Qj,Qk,Ql,Qm,Qn,true_and,and_true,Qo,Qp,Qq,Qr,Qs,Qt,Qu,Qv,Qw,Qx,Qy,Qz,Ra,Rb,Rc,Rd,Re,Rf,Rg,Rh,Ri,Rj,Rk,Rl,Rm,Ya,Yb,Yc,Rn,Ro,Rp,Yd,Ye,Rq,Rs,Rt,Ru,Rv,Rw,Rx]
      by_cases hl0:v1.limits=[]
      · have d0:decide ((v1.limits.length:Int)=0)=true:=decide_eq_true (by rw[hl0];rfl)
        simp only[d0,P4,Qa,Qb,Qc,Qd,Qe,Qf,Qg,Qh,Qi,Qj,Qk,Ql,Qm,Qn,true_and,and_true,Qo,Qp,Qq,Qr,Qs,Qt,Qu,Qv,Qw,Qx,Qy,Qz,Ra,Rb,Rc,Rd,Re,Rf,Rg,Rh,Ri,Rj,Rk,Rl,Rm,Ya,Yb,Yc,Rn,Ro,Rp,Yd,Ye,Rq,Rs,Rt,Ru,Rv,Rw,Rx]
        refine(J2 hE h1 m1).mono ?_
        rintro _ s2 ⟨ow2,x2,g1,g2,_⟩
        simp only[if_true,show(1:Nat)≠2 by decide,if_false,Qa,Qb,Qc,Qd,Qe,Qf,Qg,Qh,Qi,Qj,Qk,Ql,Qm,Qn,true_and,and_true,Qo,Qp,Qq,Qr,Qs,Qt,Qu,Qv,Qw,Qx,Qy,Qz,Ra,Rb,Rc,Rd,Re,Rf,Rg,Rh,Ri,Rj,Rk,Rl,Rm,Ya,Yb,Yc,Rn,Ro,Rp,Yd,Ye,Rq,Rs,Rt,Ru,Rv,Rw,Rx]
        have hfb:(DV v1).broken=true:=by
          unfold DV
          split
          · assumption
          · rfl
        exact hbr g1 hfb (hl.fail hI hb hp hl0) (stA.trans g2.b)
      · have d0:decide ((v1.limits.length:Int)=0)=false:=decide_eq_false fun q=>hl0 (List.length_eq_zero_iff.1 (by omega))
        by_cases hmk:most≤k
        · have d1 : decide ((most : Int) ≤ (k : Int)) = true := decide_eq_true (by omega)
          have hback:WF E 63 [.ptr (some (p,0)),.int .i64 0] (fun _ s'=>∃x',Ac ow1 s' p x' (AW v1 0)∧AH (BI p) ow1 s1 ow1 s'∧x'.w=x1.w) s1:=DC hE h1 hf1 (level:=0) (by decide)
          simp only[d0,KU,d1,P5,Qa,Qb,Qc,Qd,Qe,Qf,Qg,Qh,Qi,Qj,Qk,Ql,Qm,Qn,true_and,and_true,Qo,Qp,Qq,Qr,Qs,Qt,Qu,Qv,Qw,Qx,Qy,Qz,Ra,Rb,Rc,Rd,Re,Rf,Rg,Rh,Ri,Rj,Rk,Rl,Rm,Ya,Yb,Yc,Rn,Ro,Rp,Yd,Ye,Rq,Rs,Rt,Ru,Rv,Rw,Rx]
          refine hback.mono ?_
          rintro _ s2 ⟨x2,g1,g2,_⟩
          simp only[P6,Qa,Qb,Qc,Qd,Qe,Qf,Qg,Qh,Qi,Qj,Qk,Ql,Qm,Qn,true_and,and_true,Qo,Qp,Qq,Qr,Qs,Qt,Qu,Qv,Qw,Qx,Qy,Qz,Ra,Rb,Rc,Rd,Re,Rf,Rg,Rh,Ri,Rj,Rk,Rl,Rm,Ya,Yb,Yc,Rn,Ro,Rp,Yd,Ye,Rq,Rs,Rt,Ru,Rv,Rw,Rx]
          exact hret s2 ow1 x2 _ 2 _ _ _ _ _ _ _ _ _ _ _ (hl.unk hI hb hp hl0 hmk) g1 (stA.trans g2.b)
        · have d1 : decide ((most : Int) ≤ (k : Int)) = false := decide_eq_false (by omega)
          have e1:=Ao Try.prog 3 (k:Int) 1 ⟨by omega,by omega⟩
          have e1':((k:Int)+1)=((k+1:Nat):Int):=by omega
          obtain⟨r,r1,r2,r3,r4,r5⟩:=hl.lrn hI hb hp hl0 (by omega)
          simp only[d0,KU,d1,P7,e1,e1',G4,AJ,Qa,Qb,Qc,Qd,Qe,Qf,Qg,Qh,Qi,Qj,Qk,Ql,Qm,Qn,true_and,and_true,Qo,Qp,Qq,Qr,Qs,Qt,Qu,Qv,Qw,Qx,Qy,Qz,Ra,Rb,Rc,Rd,Re,Rf,Rg,Rh,Ri,Rj,Rk,Rl,Rm,Ya,Yb,Yc,Rn,Ro,Rp,Yd,Ye,Rq,Rs,Rt,Ru,Rv,Rw,Rx]
          refine an h1 ?_
          intro s2 h2 st2
          try simp only[Qa,Qb,Qc,Qd,Qe,Qf,Qg,Qh,Qi,Qj,Qk,Ql,Qm,Qn,true_and,and_true,Qo,Qp,Qq,Qr,Qs,Qt,Qu,Qv,Qw,Qx,Qy,Qz,Ra,Rb,Rc,Rd,Re,Rf,Rg,Rh,Ri,Rj,Rk,Rl,Rm,Ya,Yb,Yc,Rn,Ro,Rp,Yd,Ye,Rq,Rs,Rt,Ru,Rv,Rw,Rx]
          refine ao hE h2 hn hf1 m4 r1 r2 r3 r4 m1 (by have:=hi1.tot;omega) m2 ?_
          intro s3 ow3 x3 h' cn f1 f2 f3 f4
          simp only[if_true,show(1:Nat)≠2 by decide,if_false,Qa,Qb,Qc,Qd,Qe,Qf,Qg,Qh,Qi,Qj,Qk,Ql,Qm,Qn,true_and,and_true,Qo,Qp,Qq,Qr,Qs,Qt,Qu,Qv,Qw,Qx,Qy,Qz,Ra,Rb,Rc,Rd,Re,Rf,Rg,Rh,Ri,Rj,Rk,Rl,Rm,Ya,Yb,Yc,Rn,Ro,Rp,Yd,Ye,Rq,Rs,Rt,Ru,Rv,Rw,Rx]
          exact hnext s3 ow3 x3 _ (k+1) u _ _ _ _ _ _ _ _ (r5 h' cn f1 f2) (.inl ⟨by omega,rfl⟩) f3 ((stA.trans st2.b).trans f4)
    | none =>
      simp only[N5,Is,Option.isSome,QA,Qa,Qb,Qc,Qd,Qe,Qf,Qg,Qh,Qi,Qj,Qk,Ql,Qm,Qn,true_and,and_true,Qo,Qp,Qq,Qr,Qs,Qt,Qu,Qv,Qw,Qx,Qy,Qz,Ra,Rb,Rc,Rd,Re,Rf,Rg,Rh,Ri,Rj,Rk,Rl,Rm,Ya,Yb,Yc,Rn,Ro,Rp,Yd,Ye,Rq,Rs,Rt,Ru,Rv,Rw,Rx]
      by_cases huk:u≤k
      · have d1 : decide ((u : Int) ≤ (k : Int)) = true := decide_eq_true (by omega)
        have e1:=Ao Try.prog 3 (u:Int) 32 ⟨by omega,by omega⟩
        have e1':((u:Int)+32)=((u+32:Nat):Int):=by omega
        simp only[d1,QB,e1,e1',QC,Qa,Qb,Qc,Qd,Qe,Qf,Qg,Qh,Qi,Qj,Qk,Ql,Qm,Qn,true_and,and_true,Qo,Qp,Qq,Qr,Qs,Qt,Qu,Qv,Qw,Qx,Qy,Qz,Ra,Rb,Rc,Rd,Re,Rf,Rg,Rh,Ri,Rj,Rk,Rl,Rm,Ya,Yb,Yc,Rn,Ro,Rp,Yd,Ye,Rq,Rs,Rt,Ru,Rv,Rw,Rx]
        refine(Sr hE h1 (by have:=hz1.heat;have:=hz1.small;omega)).mono ?_
        rintro _ s2 ⟨h',h2,hl2,st2⟩
        have hf2:Lm n (At v1 h'):=⟨⟨hz1.small,hz1.w,hz1.value,hz1.level,hz1.why,hl2.trans hz1.heat,hz1.phase,hz1.trail,hz1.limits⟩,hf1.val,hf1.lits,hf1.lims⟩
        have hback:WF E 63 [.ptr (some (p,0)),.int .i64 0] (fun _ s'=>∃x',Ac ow1 s' p x' (AW (At v1 h') 0)∧AH (BI p) ow1 s2 ow1 s'∧x'.w=x1.w) s2:=DC hE h2 hf2 (level:=0) (by decide)
        simp only[QD,Qa,Qb,Qc,Qd,Qe,Qf,Qg,Qh,Qi,Qj,Qk,Ql,Qm,Qn,true_and,and_true,Qo,Qp,Qq,Qr,Qs,Qt,Qu,Qv,Qw,Qx,Qy,Qz,Ra,Rb,Rc,Rd,Re,Rf,Rg,Rh,Ri,Rj,Rk,Rl,Rm,Ya,Yb,Yc,Rn,Ro,Rp,Yd,Ye,Rq,Rs,Rt,Ru,Rv,Rw,Rx]
        refine hback.mono ?_
        rintro _ s3 ⟨x3,h3,st3,_⟩
        obtain⟨q1,q2⟩:=hl.cool hI hb hp h' hl2
        simp only[QE,Qa,Qb,Qc,Qd,Qe,Qf,Qg,Qh,Qi,Qj,Qk,Ql,Qm,Qn,true_and,and_true,Qo,Qp,Qq,Qr,Qs,Qt,Qu,Qv,Qw,Qx,Qy,Qz,Ra,Rb,Rc,Rd,Re,Rf,Rg,Rh,Ri,Rj,Rk,Rl,Rm,Ya,Yb,Yc,Rn,Ro,Rp,Yd,Ye,Rq,Rs,Rt,Ru,Rv,Rw,Rx]
        by_cases hroom:((AW (At v1 h') 0).learned.length:Int)<(AW (At v1 h') 0).room
        · refine (MF        hE h3 hroom).mono ?_
          rintro _ s4 ⟨ow4,h4,st4⟩
          simp only[if_true,Qa,Qb,Qc,Qd,Qe,Qf,Qg,Qh,Qi,Qj,Qk,Ql,Qm,Qn,true_and,and_true,Qo,Qp,Qq,Qr,Qs,Qt,Qu,Qv,Qw,Qx,Qy,Qz,Ra,Rb,Rc,Rd,Re,Rf,Rg,Rh,Ri,Rj,Rk,Rl,Rm,Ya,Yb,Yc,Rn,Ro,Rp,Yd,Ye,Rq,Rs,Rt,Ru,Rv,Rw,Rx]
          exact hnext s4 ow4 x3 _ k (u+32) _ _ _ _ _ _ _ _ (q1 hroom) (.inr (.inl ⟨rfl,huk,rfl⟩)) h4 (((stA.trans st2.b).trans st3.b).trans st4.b)
        · obtain⟨r1,r2,r3,r4⟩:=q2 (by omega)
          refine(RJ hE h3 (n:=n) (by omega) (by omega) r2 r3 r4).mono ?_
          rintro _ s4 ⟨ow4,x4,h4,st4⟩
          simp only[if_true,Qa,Qb,Qc,Qd,Qe,Qf,Qg,Qh,Qi,Qj,Qk,Ql,Qm,Qn,true_and,and_true,Qo,Qp,Qq,Qr,Qs,Qt,Qu,Qv,Qw,Qx,Qy,Qz,Ra,Rb,Rc,Rd,Re,Rf,Rg,Rh,Ri,Rj,Rk,Rl,Rm,Ya,Yb,Yc,Rn,Ro,Rp,Yd,Ye,Rq,Rs,Rt,Ru,Rv,Rw,Rx]
          exact hnext s4 ow4 x4 _ k (u+32) _ _ _ _ _ _ _ _ r1 (.inr (.inl ⟨rfl,huk,rfl⟩)) h4 (((stA.trans st2.b).trans st3.b).trans (st4.mono fun t ht=>by
            rcases ht with q | q
            · exact q.1
            · rw[q];exact rfl))
      · have d1:decide ((u:Int)≤(k:Int))=false:=decide_eq_false (by omega)
        simp only[d1,QF,Qa,Qb,Qc,Qd,Qe,Qf,Qg,Qh,Qi,Qj,Qk,Ql,Qm,Qn,true_and,and_true,Qo,Qp,Qq,Qr,Qs,Qt,Qu,Qv,Qw,Qx,Qy,Qz,Ra,Rb,Rc,Rd,Re,Rf,Rg,Rh,Ri,Rj,Rk,Rl,Rm,Ya,Yb,Yc,Rn,Ro,Rp,Yd,Ye,Rq,Rs,Rt,Ru,Rv,Rw,Rx]
        refine(S7 hE h1 hz1.small hz1.value hz1.heat).mono ?_
        rintro _ s2 ⟨b,ow2,rfl,hnx,h2,st2⟩
        have stB:=stA.trans st2.b
        rcases hnx with⟨hb0,hall⟩ | ⟨hb1,hb2,hb3⟩
        · have d2:decide ((b:Int)=0)=true:=decide_eq_true (by omega)
          simp only[KV,d2,Qa,Qb,Qc,Qd,Qe,Qf,Qg,Qh,Qi,Qj,Qk,Ql,Qm,Qn,true_and,and_true,Qo,Qp,Qq,Qr,Qs,Qt,Qu,Qv,Qw,Qx,Qy,Qz,Ra,Rb,Rc,Rd,Re,Rf,Rg,Rh,Ri,Rj,Rk,Rl,Rm,Ya,Yb,Yc,Rn,Ro,Rp,Yd,Ye,Rq,Rs,Rt,Ru,Rv,Rw,Rx]
          refine ap hE h2 hn hz1.value ?_
          intro s3 ow3 x3 h3 st3
          have hf3:Lm n { v1 with model:=v1.value }:=⟨⟨hz1.small,hz1.w,hz1.value,hz1.level,hz1.why,hz1.heat,hz1.phase,hz1.trail,hz1.limits⟩,hf1.val,hf1.lits,hf1.lims⟩
          have hback:WF E 63 [.ptr (some (p,0)),.int .i64 0] (fun _ s'=>∃x',Ac ow3 s' p x' (F6 v1)∧AH (BI p) ow3 s3 ow3 s'∧x'.w=x3.w) s3:=DC hE h3 hf3 (level:=0) (by decide)
          simp only[QH,Qa,Qb,Qc,Qd,Qe,Qf,Qg,Qh,Qi,Qj,Qk,Ql,Qm,Qn,true_and,and_true,Qo,Qp,Qq,Qr,Qs,Qt,Qu,Qv,Qw,Qx,Qy,Qz,Ra,Rb,Rc,Rd,Re,Rf,Rg,Rh,Ri,Rj,Rk,Rl,Rm,Ya,Yb,Yc,Rn,Ro,Rp,Yd,Ye,Rq,Rs,Rt,Ru,Rv,Rw,Rx]
          refine hback.mono ?_
          rintro _ s4 ⟨x4,h4,st4,_⟩
          simp only[QI,Qa,Qb,Qc,Qd,Qe,Qf,Qg,Qh,Qi,Qj,Qk,Ql,Qm,Qn,true_and,and_true,Qo,Qp,Qq,Qr,Qs,Qt,Qu,Qv,Qw,Qx,Qy,Qz,Ra,Rb,Rc,Rd,Re,Rf,Rg,Rh,Ri,Rj,Rk,Rl,Rm,Ya,Yb,Yc,Rn,Ro,Rp,Yd,Ye,Rq,Rs,Rt,Ru,Rv,Rw,Rx]
          exact hret s4 ow3 x4 _ 1 _ _ _ _ _ _ _ _ _ _ _ (hl.maybe hI hb hp hall) h4 ((stB.trans st3).trans st4.b)
        · have d2 : decide ((b : Int) = 0) = false := decide_eq_false (by omega)
          have hvl:=hz1.value
          have hIn:=hl.dec hI hb hp hb1 (by omega) hb3
          have hlt:v1.trail.length<(Cg v1 b).trail.length:=by
            show _<(v1.trail++[_]).length
            rw[kr];simp
          have hll:v1.limits.length+1≤n:=by
            have:=(hl.ok hIn).2.inv.fit.siz.limits
            have e:(Cg v1 b).limits.length=v1.limits.length+1:=by
              show(v1.limits++[_]).length=_
              rw[kr];rfl
            omega
          simp only[KV,d2,Qa,Qb,Qc,Qd,Qe,Qf,Qg,Qh,Qi,Qj,Qk,Ql,Qm,Qn,true_and,and_true,Qo,Qp,Qq,Qr,Qs,Qt,Qu,Qv,Qw,Qx,Qy,Qz,Ra,Rb,Rc,Rd,Re,Rf,Rg,Rh,Ri,Rj,Rk,Rl,Rm,Ya,Yb,Yc,Rn,Ro,Rp,Yd,Ye,Rq,Rs,Rt,Ru,Rv,Rw,Rx]
          refine aq h2 (by omega) ?_
          intro s3 ow3 x3 h3 st3
          try simp only[Qa,Qb,Qc,Qd,Qe,Qf,Qg,Qh,Qi,Qj,Qk,Ql,Qm,Qn,true_and,and_true,Qo,Qp,Qq,Qr,Qs,Qt,Qu,Qv,Qw,Qx,Qy,Qz,Ra,Rb,Rc,Rd,Re,Rf,Rg,Rh,Ri,Rj,Rk,Rl,Rm,Ya,Yb,Yc,Rn,Ro,Rp,Yd,Ye,Rq,Rs,Rt,Ru,Rv,Rw,Rx]
          refine ar hE h3 (n:=n) ⟨hz1.small,hz1.w,hz1.value,hz1.level,hz1.why,hz1.heat,hz1.phase,hz1.trail,by show(v1.limits++[_]).length≤n;rw[kr];exact hll⟩ hb1 (by omega) (m5 b hb1 (by omega)) ?_
          intro s4 ow4 x4 h4 st4
          try simp only[Qa,Qb,Qc,Qd,Qe,Qf,Qg,Qh,Qi,Qj,Qk,Ql,Qm,Qn,true_and,and_true,Qo,Qp,Qq,Qr,Qs,Qt,Qu,Qv,Qw,Qx,Qy,Qz,Ra,Rb,Rc,Rd,Re,Rf,Rg,Rh,Ri,Rj,Rk,Rl,Rm,Ya,Yb,Yc,Rn,Ro,Rp,Yd,Ye,Rq,Rs,Rt,Ru,Rv,Rw,Rx]
          exact hnext s4 ow4 x4 _ k u _ _ _ _ _ _ _ _ hIn (.inr (.inr ⟨rfl,rfl,by omega⟩)) h4 ((stB.trans st3).trans st4)
theorem PO{E:BJ}(hE:Good E){n most:Nat}{I:Nat→Sv→Prop}{R:Int→Sv→Prop}(hl:FY n most I R)(hn:n≤500000)(hmost:most≤1000000){p:Nat}{ow0:Ow}{s0:AG}{Q:Ar→Prop}{x7:AV}
  (hend:∀s' ow' x' v' y5 y6 y7 y8 y9 y10 y11 y12 y13 k' u',R 0 v'→Ac ow' s' p x' v'→AH (BN p) ow0 s0 ow' s'→Q ⟨.exit 0,[AV.ptr (some (p,0)),iv (most:Int),iv 0,u',k',y5,y6,y7,y8,y9,y10,y11,y12,y13],[],s'⟩)
  (hret:∀s' ow' x' v' r y3 y4 y5 y6 y7 y8 y9 y10 y11 y12 y13,R r v'→Ac ow' s' p x' v'→AH (BN p) ow0 s0 ow' s'→Q ⟨.ret,[AV.ptr (some (p,0)),iv (most:Int),iv r,y3,y4,y5,y6,y7,y8,y9,y10,y11,y12,y13],[],s'⟩):
  ∀ (m1 m2 m3:Nat) (k u:Nat) (s:AG) (ow:Ow) (x:Sf) (v:Sv) (x5 x6 x8 x9 x10 x11 x12 x13:AV),most - k=m1→k+1 - u=m2→n - v.trail.length=m3→u≤50+k+32→I k v→Ac ow s p x v→AH (BN p) ow0 s0 ow s →
   WC E none (.loop C9) Q [AV.ptr (some (p,0)),iv (most:Int),iv 0,iv (u:Int),iv (k:Int),x5,x6,x7,x8,x9,x10,x11,x12,x13] [] s:=by
 intro m1
 induction m1 using Nat.strongRecOn with
 | _ m1 ih1 =>
 intro m2
 induction m2 using Nat.strongRecOn with
 | _ m2 ih2 =>
 intro m3
 induction m3 using Nat.strongRecOn with
 | _ m3 ih3 =>
 intro k u s ow x v x5 x6 x8 x9 x10 x11 x12 x13 e1 e2 e3 hu hI h hst
 have hk:=(hl.ok hI).1
 refine PP hE hl hn hmost (u:=u) (by omega) h hI hst hend hret ?_
 intro s' ow' x' v' k' u' y5 y6 y8 y9 y10 y11 y12 y13 hI' hc h' st'
 have hk':=(hl.ok hI').1
 have ht':=(hl.ok hI').2.inv.fit.siz.trail
 rcases hc with⟨c1,c2⟩ | ⟨c1,c2,c3⟩ | ⟨c1,c2,c3⟩
 ·exact ih1 (most - k') (by omega) (k'+1 - u') (n - v'.trail.length) k' u' s' ow' x' v' _ _ _ _ _ _ _ _ rfl rfl rfl (by omega) hI' h' st'
 ·exact ih2 (k'+1 - u') (by omega) (n - v'.trail.length) k' u' s' ow' x' v' _ _ _ _ _ _ _ _ (by omega) rfl rfl (by omega) hI' h' st'
 ·exact ih3 (n - v'.trail.length) (by omega) k' u' s' ow' x' v' _ _ _ _ _ _ _ _ (by omega) (by omega) rfl (by omega) hI' h' st'
theorem Mi{E:BJ}(hE:Good E){n most:Nat}{I:Nat→Sv→Prop}{R:Int→Sv→Prop}(hl:FY n most I R)(hn:n≤500000)(hmost:most≤1000000){ow:Ow}{s:AG}{p:Nat}{x:Sf}{v:Sv}(h:Ac ow s p x v)(hf:Lm n v)(hI:I 0 (AW v 0)):
  WF E 34 [AJ p,iv (most:Int)] (fun r s'=>∃c v' ow' x',r=iv c∧R c v'∧Ac ow' s' p x' v'∧AH (BN p) ow s ow' s') s:=by
 have he:=Gb p
 simp only[AJ]at he
 have hback:WF E 63 [.ptr (some (p,0)),.int .i64 0] (fun _ s'=>∃x',Ac ow s' p x' (AW v 0)∧AH (BI p) ow s ow s'∧x'.w=x.w) s:=DC hE h hf (level:=0) (by decide)
 refine hE.go XZ (by decide) rfl ?_
 simp only[jn,V2,V3,AJ,he,V4,Qa,Qb,Qc,Qd,Qe,Qf,Qg,Qh,Qi,Qj,Qk,Ql,Qm,Qn,true_and,and_true,Qo,Qp,Qq,Qr,Qs,Qt,Qu,Qv,Qw,Qx,Qy,Qz,Ra,Rb,Rc,Rd,Re,Rf,Rg,Rh,Ri,Rj,Rk,Rl,Rm,Ya,Yb,Yc,Rn,Ro,Rp,Yd,Ye,Rq,Rs,Rt,Ru,Rv,Rw,Rx]
 refine hback.mono ?_
 rintro _ s1 ⟨x1,h1,st1,_⟩
 simp only[V5,V6,Qa,Qb,Qc,Qd,Qe,Qf,Qg,Qh,Qi,Qj,Qk,Ql,Qm,Qn,true_and,and_true,Qo,Qp,Qq,Qr,Qs,Qt,Qu,Qv,Qw,Qx,Qy,Qz,Ra,Rb,Rc,Rd,Re,Rf,Rg,Rh,Ri,Rj,Rk,Rl,Rm,Ya,Yb,Yc,Rn,Ro,Rp,Yd,Ye,Rq,Rs,Rt,Ru,Rv,Rw,Rx]
 refine PO hE hl hn hmost (ow0:=ow) (s0:=s) ?_ ?_ _ _ _ 0 32 s1 ow x1 (AW v 0) _ _ _ _ _ _ _ _ rfl rfl rfl (by omega) hI h1 st1.b
 ·intro s' ow' x' v' y5 y6 y7 y8 y9 y10 y11 y12 y13 k' u' hR hS hst
  simp only[if_true,QL,Qa,Qb,Qc,Qd,Qe,Qf,Qg,Qh,Qi,Qj,Qk,Ql,Qm,Qn,true_and,and_true,Qo,Qp,Qq,Qr,Qs,Qt,Qu,Qv,Qw,Qx,Qy,Qz,Ra,Rb,Rc,Rd,Re,Rf,Rg,Rh,Ri,Rj,Rk,Rl,Rm,Ya,Yb,Yc,Rn,Ro,Rp,Yd,Ye,Rq,Rs,Rt,Ru,Rv,Rw,Rx]
  exact⟨0,v',ow',x',rfl,hR,hS,hst⟩
 ·intro s' ow' x' v' r y3 y4 y5 y6 y7 y8 y9 y10 y11 y12 y13 hR hS hst
  simp only[Qa,Qb,Qc,Qd,Qe,Qf,Qg,Qh,Qi,Qj,Qk,Ql,Qm,Qn,true_and,and_true,Qo,Qp,Qq,Qr,Qs,Qt,Qu,Qv,Qw,Qx,Qy,Qz,Ra,Rb,Rc,Rd,Re,Rf,Rg,Rh,Ri,Rj,Rk,Rl,Rm,Ya,Yb,Yc,Rn,Ro,Rp,Yd,Ye,Rq,Rs,Rt,Ru,Rv,Rw,Rx]
  exact⟨r,v',ow',x',rfl,hR,hS,hst⟩
structure Mr(A K:Nat)(v:Sv):Prop where
 tot:CD v.watches≤2 * (A+K)
 many:v.many=(K:Int)
 trc:v.trace.length+v.learned.length≤2 * K
 r0:0≤v.room
 r1:v.room≤2000+4 * (K:Int)
structure Es(n A:Nat)(F:List (List Int))(K:Nat)(J:Sv→Prop)(v:Sv):Prop where
 brk:v.broken=false
 ci:CI n F v.head.toNat (hide v)
 h0:0≤v.head
 h1:v.head≤(v.trail.length:Int)
 all:Ft n F v.learned v
 cnt:Mr A K v
 j:J v
structure Ub(n:Nat)(F:List (List Int))(M:Nat)(J:Sv→Prop)(v:Sv):Prop where
 brk:v.broken=true
 inv:FW n 50000000 v
 lim:v.limits=[]
 trc:v.trace.length≤1000000
 many:v.many≤(M:Int)
 no:∀σ,¬ BQ σ F
 j:J v
theorem Mr.of{A K:Nat}{v v':Sv}(h:Mr A K v)(h2:v'.many=v.many)(h3:v'.learned=v.learned)(h4:v'.trace=v.trace)(h5:v'.watches=v.watches)(h6:v'.room=v.room):Mr A K v':=
 ⟨by rw[h5];exact h.tot,by rw[h2];exact h.many,by rw[h3,h4];exact h.trc,by rw[h6];exact h.r0,by rw[h6];exact h.r1⟩
theorem Mr.back{A K:Nat}{v:Sv}(h:Mr A K v)(j:Nat):Mr A K (AW v j):=by
 obtain⟨ph,va,wh,tr,li,hd,e,_⟩:=Bm v j
 rw[e]
 exact h.of rfl rfl rfl rfl rfl
theorem Ft.back{n:Nat}{F:List (List Int)}{Ls:List Nat}{v:Sv}(h:Ft n F Ls v)(j:Nat)(hi:Aw n (AW v j)):Ft n F Ls (AW v j):=by
 have e:=(Hs v j).1
 exact⟨hi,by rw[e];exact h.all,fun d hd=>by rw[e];exact h.why d (N1 hd),by rw[e];exact h.lrn,h.lnd,by rw[e];exact h.cov⟩
theorem Ft.of{n:Nat}{F:List (List Int)}{Ls:List Nat}{v v':Sv}(h:Ft n F Ls v)(hi:Aw n v')(h1:v'.cl=v.cl)(h2:v'.why=v.why):Ft n F Ls v':=
 ⟨hi,by rw[h1];exact h.all,by rw[h1,h2];exact h.why,by rw[h1];exact h.lrn,h.lnd,by rw[h1];exact h.cov⟩
theorem FW.hide{n B:Nat}{v:Sv}(h:FW n B v):FW n B (Go.Proofs.Ytilhhmkdcoajnaa.Am.hide v):=⟨h.inv.hide,lF (Yq v) h.tot,h.h0,h.h1⟩
theorem Uq{n:Nat}{v:Sv}(h:Aw n v){j:Nat}(hb:Aw n (AW (hide v) j)):Aw n (AW v j):=by
 rw[Iz]at hb
 obtain⟨⟨hz,hv,hli,hlm⟩,g2,g3,g4,g5⟩:=hb
 obtain⟨ph,va,wh,tr,li,hd,e,_⟩:=Bm v j
 have ew:(AW v j).watches=v.watches:=by rw[e]
 have ec:=(Hs v j).1
 refine⟨⟨⟨hz.small,by rw[ew];exact h.fit.siz.w,hz.value,hz.level,hz.why,hz.heat,hz.phase,hz.trail,hz.limits⟩,hv,hli,hlm⟩,g2,g3,g4,?_⟩
 rw[ew,ec]
 exact h.wc
theorem Cq{n A K:Nat}{F:List (List Int)}{J:Sv→Prop}(S:Fv n F J){v v1:Sv}{c:Option Nat}(hL:Es n A F K J v)(hA:2 * (A+K)≤50000000)(hp:Bl v c v1):
    Et (hide v) (hide v1)∧CT n (hide v1)∧FW n 50000000 v1∧Mr A K v1∧Ft n F v1.learned v1∧J v1∧(c=none→CI n F v1.trail.length (hide v1)∧v1.head=(v1.trail.length:Int))∧∀d,c=some d→∃h,CI n F h (hide v1)∧∃l,GG (hide v1) d l∧lv v1 l=(v1.limits.length:Int):=by
  have hI2:FW n (2 * (A+K)) v:=⟨hL.all.inv,hL.cnt.tot,hL.h0,hL.h1⟩
  have hlh:∀x∈(hide v).limits,x≤(hide v).head:=fun x hx=>by
    have q1:=hL.ci.lh x hx
    have q2:=hL.h0
    show x≤v.head
    omega
  obtain⟨p1,p2,p3,p4,p5⟩:=(To hp).cw hL.ci.ct hL.ci.cw hI2.hide hlh
  obtain⟨k1,k2⟩:=hp.keep hI2
  have hrp:=hp.rp
  have htl:∃T,v1.trail=v.trail++T:=p1.tr
  have hlm:v1.limits=v.limits:=p1.limits
  have elrn:v1.learned=v.learned:=p1.learned
  refine⟨p1,p2,⟨k1.inv,by have:=k1.tot;omega,k1.h0,k1.h1⟩,⟨k1.tot,p1.many.trans hL.cnt.many,?_,?_,?_⟩,⟨k1.inv,fun d ms t q=>?_,fun d hd=>?_,?_,?_,fun f hf=>?_⟩,S.same hL.j p1.cl p1.trace p1.broken,fun hc=>?_,fun d hd=>?_⟩
  · have e1:v1.trace=v.trace:=p1.trace
    rw[elrn,e1]
    exact hL.cnt.trc
  · have e:v1.room=v.room:=p1.room
    rw[e];exact hL.cnt.r0
  · have e:v1.room=v.room:=p1.room
    rw[e];exact hL.cnt.r1
  · cases hb:t.2 with
    | true=>exact hL.all.all d ms t (hrp.gone d ms t q hb)
    | false=>exact(p2.cls d ms t (E3 q hb)).1
  · rcases hrp.why d hd with z | z
    · exact hrp.nn d (hL.all.why d z)
    · exact z
  · rw[elrn]
    intro d hd
    obtain⟨ls,q⟩:=hL.all.lrn d hd
    obtain⟨ls',q1,_⟩:=(p1.cl d).2 ls _ (E3 q rfl)
    exact⟨ls',(Fh q1).1⟩
  · rw[elrn];exact hL.all.lnd
  · rcases hL.all.cov f hf with q | ⟨d, ls, q1, q2⟩
    · exact .inl q
    · obtain⟨ls',r1,r2⟩:=(p1.cl d).2 ls _ (E3 q1 rfl)
      exact .inr ⟨d,ls',(Fh r1).1,fun y hy=>q2 y (r2.mem_iff.1 hy)⟩
  · obtain⟨q1,q2⟩:=p4 hc
    have q2:v1.head=(v1.trail.length:Int):=q2
    have e:(hide v1).head.toNat=v1.trail.length:=by show v1.head.toNat=_;omega
    rw[e]at q1
    refine⟨hL.ci.prog p1 p2 q1 (kp _) fun x hx=>?_,q2⟩
    have:=hL.ci.ct.below x hx
    have this:x<(v.trail.length:Int):=this
    obtain⟨T,eT⟩:=htl
    rw[eT,kr]
    omega
  · obtain⟨h,q1,q2,l,q3,q4⟩:=p5 d hd
    have hlen:v.trail.length≤v1.trail.length:=by
      obtain⟨T,eT⟩:=htl
      rw[eT,kr];omega
    have hcw:CW (hide v1) (min h v1.trail.length) []:=q1.less (Nat.min_le_left _ _)
    refine⟨min h v1.trail.length,hL.ci.prog p1 p2 hcw (Nat.min_le_right _ _) fun x hx=>?_,l,q3,?_⟩
    · have z1 := q2 x hx
      have z2:=hL.ci.ct.below x hx
      have z2:x<(v.trail.length:Int):=z2
      omega
    · rw[hlm];exact q4
def If(n A:Nat)(F:List (List Int))(c0 most:Nat)(J:Sv→Prop)(k:Nat)(v:Sv):Prop:=k≤most∧(Es n A F (c0+k) J v∨Ub n F (c0+most) J v)
def Uf(n A:Nat)(F:List (List Int))(c0 most:Nat)(J:Sv→Prop)(r:Int)(v:Sv):Prop:=
 (r=0∧Ub n F (c0+most) J v)∨(∃K,K≤c0+most∧Es n A F K J v∧v.limits=[]∧(r=1∧v.model.length=n+1∧BQ (FD v.model) F∨r=2))
theorem Es.back{n A K h:Nat}{F:List (List Int)}{J:Sv→Prop}(S:Fv n F J){v:Sv}(k:CI n F h (hide v))(hz:v.limits=[]→h=v.head.toNat∧0≤v.head∧v.head≤(v.trail.length:Int))(hb:v.broken=false)(ha:Ft n F v.learned v)(hc:Mr A K v)(hj:J v):Es n A F K J (AW v 0)∧(AW v 0).limits=[]:=by
 obtain⟨z1,z2,z3,z4⟩:=k.zero hz
 have hi:=Uq ha.inv z1.ct.inv
 rw[Iz]at z1 z2 z3 z4
 have elr:(AW v 0).learned=v.learned:=by
  obtain⟨ph,va,wh,tr,li,hd,e,_⟩:=Bm v 0
  rw[e]
 obtain⟨c1,c2,c3⟩:=Hs v 0
 exact⟨⟨c3.trans hb,z1,z3,z4,by rw[elr];exact ha.back 0 hi,hc.back 0,S.same hj (by rw[c1];exact Bu.refl _) c2 c3⟩,z2⟩
theorem NI{n A K:Nat}{F:List (List Int)}{J:Sv→Prop}(S:Fv n F J){v:Sv}(h:Es n A F K J v)(hr:v.room≤(v.learned.length:Int)):Es n A F K J (G8 v)∧(G8 v).limits=v.limits:=by
 have ha:Ft n F v.learned { v with room:=v.room+v.room / 8 }:=h.all.of (v':={ v with room:=v.room+v.room / 8 }) (by
  obtain⟨⟨hz,hv,hli,hlm⟩,g2,g3,g4,g5⟩:=h.all.inv
  exact⟨⟨⟨hz.small,hz.w,hz.value,hz.level,hz.why,hz.heat,hz.phase,hz.trail,hz.limits⟩,hv,hli,hlm⟩,g2,g3,g4,g5⟩) rfl rfl
 have hci:CI n F v.head.toNat (hide { v with room:=v.room+v.room / 8 }):=h.ci.of ha.inv.hide rfl rfl rfl rfl rfl rfl rfl
 obtain⟨i1,i2,i3,i4,i5,i6,i7⟩:=Ir S v.learned 0 _ hci ha (S.same h.j (Bu.refl _) rfl rfl) h.brk
 have hroom:=i4.room
 have hr0:=h.cnt.r0
 have hr1:=h.cnt.r1
 have htrc:=h.cnt.trc
 have hbrk:(BS v.learned 0 { v with room:=v.room+v.room / 8 }).1.broken=v.broken:=i4.broken
 have hhd:(BS v.learned 0 { v with room:=v.room+v.room / 8 }).1.head=v.head:=i4.head
 have htr:(BS v.learned 0 { v with room:=v.room+v.room / 8 }).1.trail=v.trail:=i4.trail
 have hlm:(BS v.learned 0 { v with room:=v.room+v.room / 8 }).1.limits=v.limits:=i4.limits
 have hw:(BS v.learned 0 { v with room:=v.room+v.room / 8 }).1.watches=v.watches:=i4.watches
 have hmy:(BS v.learned 0 { v with room:=v.room+v.room / 8 }).1.many=v.many:=i4.many
 unfold G8
 generalize BS v.learned 0 { v with room:=v.room+v.room / 8 }=r at *
 obtain⟨w,Ks⟩:=r
 dsimp only at *
 have hinv:Aw n { w with learned:=Ks }:=by
  obtain⟨⟨hz,hv,hli,hlm⟩,g2,g3,g4,g5⟩:=i2.inv
  exact⟨⟨⟨hz.small,hz.w,hz.value,hz.level,hz.why,hz.heat,hz.phase,hz.trail,hz.limits⟩,hv,hli,hlm⟩,g2,g3,g4,g5⟩
 refine⟨⟨hbrk.trans h.brk,?_,by show 0≤w.head;rw[hhd];exact h.h0,by show w.head≤(w.trail.length:Int);rw[hhd,htr];exact h.h1,i2.of hinv rfl rfl,⟨by show CD w.watches≤_;rw[hw];exact h.cnt.tot,hmy.trans h.cnt.many,?_,?_,?_⟩,S.same i3 (Bu.refl _) rfl rfl⟩,hlm⟩
 ·have g:CI n F v.head.toNat (hide { w with learned:=Ks }):=i1.of hinv.hide rfl rfl rfl rfl rfl rfl rfl
  rw[← hhd]at g
  exact g
 ·show w.trace.length+Ks.length≤_
  omega
 ·show 0≤w.room
  rw[hroom]
  show 0≤v.room+v.room / 8
  omega
 ·show w.room≤_
  rw[hroom]
  show v.room+v.room / 8≤_
  omega
theorem Es.dinv{n A K:Nat}{F:List (List Int)}{J:Sv→Prop}{v:Sv}(h:Es n A F K J v)(hK:K≤200000)(hn:n≤1000):Hl n v.learned 0 v:=by
  refine⟨h.all.inv.fit.siz.why,fun d hd=>?_,fun c hc=>?_,?_⟩
  · have:=h.all.why d hd
    cases hcl:v.cl d with
    | none=>exact absurd hcl this
    | some l=>exact⟨l,rfl⟩
  · obtain ⟨ls, q⟩ := h.all.lrn c hc
    obtain⟨q1,q2,q3,_⟩:=h.ci.ct.cls c ls _ (E3 q rfl)
    have:=Zl q1 q3
    exact⟨ls,_,q,q1,by omega⟩
  · have:=h.cnt.trc
    omega
theorem LV         {n A : Nat} {F : List (List Int)} {c0 most : Nat} {J : Sv → Prop} (S : Fv     n F J) (hn : n ≤ 1000) (hF : ∀ f ∈ F, ∀ y ∈ f, VL n y) (hA : A ≤ 1000000) (hb : c0 + most ≤ 200000) : FY        n most (If     n A F c0 most J) (Uf     n A F c0 most J) := by
  have live:∀ {k v},If n A F c0 most J k v→v.broken=false→k≤most∧Es n A F (c0+k) J v:=fun hI hbr=>by
    obtain⟨hk,hL | hD⟩:=hI
    · exact⟨hk,hL⟩
    · rw[hD.brk]at hbr;cases hbr
  refine⟨fun hI=>?_,fun hI hbr=>?_,fun hI hbr hp=>?_,fun hI hbr hp hl=>?_,fun hI hbr hp hl hk=>?_,fun hI hbr hp hl hk=>?_,fun hI hbr hp h hh=>?_,fun hI hbr hp hall=>?_,fun hI hbr hp h1 h2 h3=>?_⟩
  · obtain ⟨hk, hL | hD⟩ := hI
    · exact⟨hk,hL.all.inv,by have:=hL.cnt.tot;omega,hL.h0,hL.h1⟩
    · exact⟨hk,hD.inv⟩
  · obtain ⟨hk, hL | hD⟩ := hI
    · rw[hL.brk]at hbr;cases hbr
    · exact .inl ⟨rfl,hD⟩
  · obtain ⟨hk, hL⟩ := live hI hbr
    obtain⟨p1,p2,p3,p4,p5,p6,p7,p8⟩:=Cq S hL (by omega) hp
    refine⟨by have:=p4.trc;omega,by have:=p4.trc;omega,p5.all,?_⟩
    have h1:=hL.ci.phase
    have h2:(hide _).phase=(hide _).phase:=p1.phase
    have h1:DG n (hide _):=h1
    unfold DG at h1
    rw[← h2]at h1
    exact h1
  · rename_i k v c v1
    obtain⟨hk,hL⟩:=live hI hbr
    obtain⟨p1,p2,p3,p4,p5,p6,p7,p8⟩:=Cq S hL (by omega) hp
    obtain⟨h,k1,l,k2,k3⟩:=p8 _ rfl
    have hbr1:v1.broken=false:=p1.broken.trans hbr
    refine .inl ⟨rfl,?_⟩
    have hj:=S.fail p6 p2 k1 hl k2 k3
    rw[Fe hbr1]at hj ⊢
    obtain⟨⟨⟨hz,hv,hli,hlm⟩,g2,g3,g4,g5⟩,t1,t2,t3⟩:=p3
    refine⟨rfl,⟨⟨⟨⟨hz.small,hz.w,hz.value,hz.level,hz.why,hz.heat,hz.phase,hz.trail,hz.limits⟩,hv,hli,hlm⟩,g2,g3,g4,g5⟩,t1,t2,t3⟩,hl,?_,?_,fun σ hσ=>?_,hj⟩
    · show(List.length (_++[_]))≤_
      rw[kr]
      have:=p4.trc
      simp;omega
    · show Sv.many _≤_
      have:=p4.many
      dsimp only
      omega
    · obtain ⟨ls, b, q1, q2, q3, q4⟩ := k2
      obtain⟨y,hy,hs⟩:=k1.imp σ hσ _ ls b q1
      obtain⟨i,e⟩:=DS.1 (q3 y hy)
      refine hs.neg (p2.zero (k1.imp σ hσ) i (-y) e ?_)
      have:=p2.lev i _ e
      unfold lv
      rw[this]
      have hl':(hide _).limits=[]:=hl
      rw[hl'];rfl
  · rename_i k v c v1
    obtain⟨hkm,hL⟩:=live hI hbr
    obtain⟨p1,p2,p3,p4,p5,p6,p7,p8⟩:=Cq S hL (by omega) hp
    obtain⟨h,k1,l,k2,k3⟩:=p8 _ rfl
    have hbr1:v1.broken=false:=p1.broken.trans hbr
    obtain⟨z1,z2⟩:=Es.back S k1 (fun q=>absurd q hl) hbr1 p5 p4 p6
    exact .inr ⟨_,by omega,z1,z2,.inr rfl⟩
  · rename_i k v c v1
    obtain⟨hkm,hL⟩:=live hI hbr
    obtain⟨p1,p2,p3,p4,p5,p6,p7,p8⟩:=Cq S hL (by omega) hp
    obtain⟨h,k1,l,k2,k3⟩:=p8 _ rfl
    have hbr1:v1.broken=false:=p1.broken.trans hbr
    obtain⟨r,r1,r2⟩:=Gl p2 hl k2 k3
    have hlist:=r2.list p2
    have eL0:AU (hide v1) r=AU v1 r:=rfl
    rw[eL0]at hlist
    have hsm:=p2.inv.fit.siz
    have hlevb:0≤r.lev∧r.lev<(v1.limits.length:Int):=by
      have hpos:0<v1.limits.length:=List.length_pos_iff.2 hl
      rcases r2.lev.2 with⟨_,e⟩ | ⟨q,hq,e⟩
      · omega
      · have := r2.lits q hq
        have this2:lv (hide v1) q<(v1.limits.length:Int):=this.2.2
        omega
    refine⟨r,RO r1,hlist.ok,hlevb.1,by have q1:=hsm.limits;have q1:v1.limits.length≤n:=q1;omega,fun hh cn hhl hcn=>?_⟩
    have hiw:Aw n (At (Bh v1) hh):=p5.inv.many.heat (v:=Bh v1) hhl
    have kw:CI n F h (hide (At (Bh v1) hh)):=k1.of hiw.hide rfl rfl rfl rfl rfl rfl rfl
    have hLw:ED (hide (At (Bh v1) hh)) r:=⟨r2.uip,r2.lits,r2.nd,r2.lev,r2.imp⟩
    have eL:AU (hide (At (Bh v1) hh)) r=AU v1 r:=rfl
    obtain⟨g1,g2,g3,g4,g5⟩:=S1 kw hl hLw (c:=cn) (HW hcn)
    rw[eL]at g1 g2 g3
    have hcnb:(AW (At (Bh v1) hh) r.lev.toNat).cl cn=none:=by rw[(Hs _ _).1];exact hcn
    rw[Iz,← Tm hcnb]at g1 g2 g3
    have g2:0≤(Ax (AW (At (Bh v1) hh) r.lev.toNat) cn (AU v1 r)).head:=g2
    have g3:(Ax (AW (At (Bh v1) hh) r.lev.toNat) cn (AU v1 r)).head≤((Ax (AW (At (Bh v1) hh) r.lev.toNat) cn (AU v1 r)).trail.length:Int):=g3
    have g1:CI n F (Ax (AW (At (Bh v1) hh) r.lev.toNat) cn (AU v1 r)).head.toNat (hide (Ax (AW (At (Bh v1) hh) r.lev.toNat) cn (AU v1 r))):=g1
    obtain⟨ph,va,wh,tr,li,hd,e,_⟩:=Bm (At (Bh v1) hh) r.lev.toNat
    have hwb:∀d,some d∈(AW (At (Bh v1) hh) r.lev.toNat).why→some d∈v1.why:=fun d hd=>(N1 hd:some d∈(At (Bh v1) hh).why)
    have hm:r.hd∈AU v1 r:=(hlist.mem _).2 (.inl rfl)
    have hj1:=S.lrn (cn:=cn) p6 p2 k1 hl k2 k3 r1 r2 hcn
    generalize hvb:AW (At (Bh v1) hh) r.lev.toNat=vb at *
    have ecl:vb.cl=v1.cl:=by rw[e];rfl
    have emany:vb.many=DZ .i64 (v1.many+1):=by rw[e];rfl
    have elrn:vb.learned=v1.learned:=by rw[e];rfl
    have etrc:vb.trace=v1.trace:=by rw[e];rfl
    have ewat:vb.watches=v1.watches:=by rw[e];rfl
    have eroom:vb.room=v1.room:=by rw[e];rfl
    have ebrk:vb.broken=v1.broken:=by rw[e];rfl
    have kcl:(Ax vb cn (AU v1 r)).cl=AP vb.cl cn (AU v1 r,(true,false)):=by unfold Ax;split<;>rfl
    have kmany:(Ax vb cn (AU v1 r)).many=vb.many:=by unfold Ax;split<;>rfl
    have klrn:(Ax vb cn (AU v1 r)).learned=vb.learned∨(Ax vb cn (AU v1 r)).learned=vb.learned++[cn]:=by
      unfold Ax
      split
      · exact .inr rfl
      · exact .inl rfl
    have kwhy:(Ax vb cn (AU v1 r)).why=vb.why.set ((AU v1 r).getD 0 0).natAbs (some cn):=by unfold Ax;split<;>rfl
    have ktrc:(Ax vb cn (AU v1 r)).trace=vb.trace++[(false,AU v1 r)]:=by
      unfold Ax
      split<;>rfl
    have kwat:(Ax vb cn (AU v1 r)).watches=EW vb.watches cn (AU v1 r):=by unfold Ax EW;split<;>rfl
    have kroom:(Ax vb cn (AU v1 r)).room=vb.room:=by unfold Ax;split<;>rfl
    have kbrk:(Ax vb cn (AU v1 r)).broken=vb.broken:=by unfold Ax;split<;>rfl
    generalize hkk:Ax vb cn (AU v1 r)=vk at *
    have hput:vk.cl cn=some (AU v1 r,true,false):=by rw[kcl];exact Aj _ _ _
    have hold:∀ {d:Nat},d≠cn→vk.cl d=v1.cl d:=fun {d} ne=>by
      rw[kcl,ecl]
      unfold AP
      rw[if_neg ne]
    have holds:∀ {d:Nat} {l:A5},v1.cl d=some l→vk.cl d=some l:=fun {d l} q=>by
      rw[hold fun ne=>by rw[ne,hcn]at q;cases q]
      exact q
    have hcnl:cn ∉ v1.learned:=fun q=>by
      obtain⟨ls,z⟩:=p5.lrn cn q
      rw[hcn]at z;cases z
    refine⟨by omega,.inl ⟨by rw[kbrk,ebrk];exact hbr1,g1,g2,g3,⟨?_,fun d ms t q=>?_,fun d q=>?_,fun d q=>?_,?_,fun f hf=>?_⟩,⟨?_,?_,?_,by rw[kroom,eroom];exact p4.r0,by rw[kroom,eroom];have:=p4.r1;omega⟩,S.same hj1 ?_ ?_ ?_⟩⟩
    · have hi:=g1.ct.inv
      obtain⟨⟨hz,hv,hli,hlm⟩,q2,q3,q4,q5⟩:=hi
      refine⟨⟨⟨hz.small,?_,hz.value,hz.level,hz.why,hz.heat,hz.phase,hz.trail,hz.limits⟩,hv,hli,hlm⟩,q2,q3,q4,?_⟩
      · rw[kwat,O5,ewat];exact p5.inv.fit.siz.w
      · rw[kwat,ewat]
        obtain⟨i1,i2⟩:=p5.inv.withC hcn hlist.ok (true,false)
        intro L hL d hd
        obtain⟨ls,b,w1,w2,w3⟩:=i1.wc L hL d hd
        exact⟨ls,b,by rw[kcl,ecl];exact w1,w2,w3⟩
    · by_cases ne : d = cn
      · rw[ne,hput]at q
        injection q with q
        injection q with q _
        rw[← q];exact hlist.ok
      · rw[hold ne]at q
        exact p5.all d ms t q
    · rw [kwhy] at q
      rcases Dp q with z | z
      · have z:=hwb d z
        cases hz:v1.cl d with
        | none=>exact absurd hz (p5.why d z)
        | some l=>rw[holds hz];exact fun y=>by cases y
      · injection z with z
        rw[← z,hput];exact fun y=>by cases y
    · have:d∈v1.learned∨d=cn:=by
        rcases klrn with z | z
        · rw[z,elrn]at q;exact .inl q
        · rw [z, elrn] at q
          rcases List.mem_append.1 q with y | y
          · exact .inl y
          · exact .inr (List.mem_singleton.1 y)
      rcases this with z | z
      · obtain⟨ls,y⟩:=p5.lrn d z
        exact⟨ls,holds y⟩
      · rw[z];exact⟨_,hput⟩
    · rcases klrn with z | z
      · rw[z,elrn];exact p5.lnd
      · rw[z,elrn,ly]
        exact⟨p5.lnd,mV.2 ⟨by simp,List.nodup_nil⟩,fun a ha b hb ab=>hcnl (by rw[← List.mem_singleton.1 hb,← ab];exact ha)⟩
    · rcases p5.cov f hf with q | ⟨d, ls, q1, q2⟩
      · exact .inl q
      · exact .inr ⟨d,ls,holds q1,q2⟩
    · rw[kwat,ewat]
      have:=IR v1.watches cn (AU v1 r)
      have:=p4.tot
      omega
    · rw[kmany,emany,p4.many,EP ⟨by omega,by omega⟩]
      omega
    · rw[ktrc,kr,etrc]
      have h2:=p4.trc
      have h3:vk.learned.length≤v1.learned.length+1:=by
        rcases klrn with z | z
        · rw[z,elrn];omega
        · rw[z,elrn,kr];simp
      simp only[lO,lm]
      omega
    · rw[kcl,ecl];exact Bu.refl _
    · rw[ktrc,etrc];rfl
    · rw[kbrk,ebrk];rfl
  · rename_i k v v1
    obtain⟨hkm,hL⟩:=live hI hbr
    obtain⟨p1,p2,p3,p4,p5,p6,p7,p8⟩:=Cq S hL (by omega) hp
    obtain⟨k1,k2⟩:=p7 rfl
    have hbr1:v1.broken=false:=p1.broken.trans hbr
    have hi:=p5.inv.heat hh
    have kw:CI n F v1.trail.length (hide (At v1 h)):=k1.of hi.hide rfl rfl rfl rfl rfl rfl rfl
    obtain⟨z1,z2⟩:=Es.back (v:=At v1 h) S kw (fun _=>⟨by show v1.trail.length=v1.head.toNat;omega,by show 0≤v1.head;omega,by show v1.head≤(v1.trail.length:Int);omega⟩) hbr1 (p5.of hi rfl rfl) (p4.of rfl rfl rfl rfl rfl) (S.same p6 (Bu.refl _) rfl rfl)
    refine⟨fun _=>⟨hkm,.inl z1⟩,fun hr=>⟨⟨hkm,.inl (NI S z1 hr).1⟩,⟨z1.cnt.r0,by have:=z1.cnt.r1;omega⟩,z1.dinv (by omega) hn,by have:=z1.cnt.trc;omega⟩⟩
  · rename_i k v v1
    obtain⟨hkm,hL⟩:=live hI hbr
    obtain⟨p1,p2,p3,p4,p5,p6,p7,p8⟩:=Cq S hL (by omega) hp
    obtain⟨k1,k2⟩:=p7 rfl
    have hbr1:v1.broken=false:=p1.broken.trans hbr
    have hi:Aw n { v1 with model:=v1.value }:=p5.inv.model _
    have kw:CI n F v1.trail.length (hide { v1 with model:=v1.value }):=k1.of hi.hide rfl rfl rfl rfl rfl rfl rfl
    obtain⟨z1,z2⟩:=Es.back (v:={ v1 with model:=v1.value }) S kw (fun _=>⟨by show v1.trail.length=v1.head.toNat;omega,by show 0≤v1.head;omega,by show v1.head≤(v1.trail.length:Int);omega⟩) hbr1 (p5.of hi rfl rfl) (p4.of rfl rfl rfl rfl rfl) (S.same p6 (Bu.refl _) rfl rfl)
    have em:(F6 v1).model=v1.value:=by
      unfold F6
      obtain⟨ph,va,wh,tr,li,hd,e,_⟩:=Bm { v1 with model:=v1.value } 0
      rw[e]
    refine .inr ⟨c0+k,by omega,z1,z2,.inl ⟨rfl,?_,?_⟩⟩
    · rw[em];exact p5.inv.fit.siz.value
    · rw[em];exact CI.models (v:=hide v1) k1 hF hall
  · rename_i k v v1 b
    obtain⟨hkm,hL⟩:=live hI hbr
    obtain⟨p1,p2,p3,p4,p5,p6,p7,p8⟩:=Cq S hL (by omega) hp
    obtain⟨k1,k2⟩:=p7 rfl
    have hbr1:v1.broken=false:=p1.broken.trans hbr
    obtain⟨g1,g2⟩:=CI.guess (v:=hide v1) k1 h1 h2 h3
    have g2:(Cg v1 b).trail.length=v1.trail.length+1:=g2
    have ehd:(Cg v1 b).head=v1.head:=rfl
    have hg:Cg (hide v1) b=hide (Cg v1 b):=rfl
    rw[hg]at g1
    have g1:CI n F v1.trail.length (hide (Cg v1 b)):=g1
    refine⟨hkm,.inl ⟨hbr1,?_,by rw[ehd];omega,by rw[ehd,g2];omega,?_,p4.of rfl rfl rfl rfl rfl,S.same p6 (Bu.refl _) rfl rfl⟩⟩
    · rw[ehd,show v1.head.toNat=v1.trail.length by omega]
      exact g1
    · have hi:=g1.ct.inv
      obtain⟨⟨hz,hv,hli,hlm⟩,q2,q3,q4,q5⟩:=hi
      refine⟨⟨⟨⟨hz.small,p5.inv.fit.siz.w,hz.value,hz.level,hz.why,hz.heat,hz.phase,hz.trail,hz.limits⟩,hv,hli,hlm⟩,q2,q3,q4,p5.inv.wc⟩,p5.all,fun d hd=>?_,p5.lrn,p5.lnd,p5.cov⟩
      rcases Dp hd with z | z
      · exact p5.why d z
      · cases z
def Nv(n A:Nat)(F:List (List Int))(M:Nat)(J:Sv→Prop)(v:Sv):Prop:=(∃K,K≤M∧Es n A F K J v∧v.limits=[])∨Ub n F M J v
def gw(n A M:Nat):Prop:=n≤1000∧A≤10000∧M≤200000
theorem Nv.inv{n A:Nat}{F:List (List Int)}{M:Nat}{J:Sv→Prop}{v:Sv}(h:Nv n A F M J v)(hb:gw n A M):Aw n v∧v.limits=[]∧v.trace.length≤1000000∧CD v.watches≤50000000∧J v:=by
  obtain⟨b1,b2,b3⟩:=hb
  rcases h with⟨K,h1,h2,h3⟩ | h
  · have := h2.cnt.trc
    have:=h2.cnt.tot
    exact⟨h2.all.inv,h3,by omega,by omega,h2.j⟩
  · exact⟨h.inv.inv,h.lim,h.trc,h.inv.tot,h.j⟩
theorem Nv.mono{n A:Nat}{F:List (List Int)}{M M':Nat}{J:Sv→Prop}{v:Sv}(h:Nv n A F M J v)(hM:M≤M'):Nv n A F M' J v:=by
 rcases h with⟨K,h1,h2,h3⟩ | h
 ·exact .inl ⟨K,by omega,h2,h3⟩
 ·exact .inr ⟨h.brk,h.inv,h.lim,h.trc,by have:=h.many;omega,h.no,h.j⟩
theorem Tn{v:Sv}(h:v.cl=fun _=>none):hide v=v:=by
 have e1:A8 v.cl=fun _=>true:=by
  funext c
  unfold A8
  rw[h]
 have e2:C5 v.cl=v.cl:=by
  funext c
  unfold C5
  rw[h]
 have e3:C6 v.cl v.watches=v.watches:=by
  unfold C6
  rw[e1]
  have:(fun L:List Nat=>L.filter fun _=>true)=id:=by
   funext L
   exact List.filter_eq_self.2 fun _ _=>rfl
  rw[this,List.map_id]
 unfold hide
 rw[e2,e3]
theorem FV.liveD{n:Nat}(hn:n<100000000){v:Sv}(h:FV (n+1) v){J:Sv→Prop}(hj:J v):Es n 0 [] 0 J v∧v.limits=[]:=by
 obtain⟨h1,h2⟩:=h.live hn
 obtain⟨r1,r2,r3,r4,r5,r6,r7,r8,r9,r10⟩:=h.rest
 have hcl:∀c l,v.cl c=some l→False:=fun c l hc=>by rw[r10]at hc;cases hc
 refine⟨⟨r5,by rw[Tn r10];exact h1.ci,h1.h0,h1.h1,⟨h1.ci.ct.inv,fun c ls b q=>(hcl _ _ q).elim,fun d q=>?_,by rw[r1];exact fun _ q=>(by cases q),by rw[r1];exact List.nodup_nil,fun _ q=>by cases q⟩,⟨h1.cod.tot,by rw[r8];rfl,by rw[r7,r1];exact kp _,by rw[r9];decide,by rw[r9];decide⟩,hj⟩,h2⟩
 rw[h.why]at q
 have:=List.eq_of_mem_replicate q
 cases this
theorem Nv.add  {n A : Nat} {F : List (List Int)} {M : Nat} {J J' : Sv → Prop} {v : Sv} (h : Nv  n A F M J v) (hb : gw  n A M) {f : List Int} (hf : ∀ q ∈ f, VL n q) (hlen : f.length ≤ 12) {v' : Sv} (hr : KF   v f v') (hj : J' v') : Nv  n (A + 1) (F ++ [f]) M J' v' ∧ v'.many = v.many := by
  obtain⟨b1,b2,b3⟩:=hb
  rcases h with⟨K,hK,h1,h2⟩ | h
  · have hcl : Ft   n F v.learned v := h1.all
    have old:(∀c l,v.cl c=some l→v'.cl c=some l)∧(∀c ls b,v'.cl c=some (ls,b)→v.cl c=some (ls,b)∨((∃y∈f,-y∈f)∨∀y∈ls,y∈f)∧b=(false,false)∧A1 n ls)∧(∀d,some d∈v'.why→some d∈v.why∨v'.cl d≠none)∧v'.learned=v.learned∧v'.many=v.many∧v'.room=v.room∧CD v'.watches≤CD v.watches+2∧(v'.broken=false→(∃y∈f,-y∈f)∨∃c ls,v'.cl c=some (ls,false,false)∧∀y∈ls,y∈f)∧(∀L∈v'.watches,∀c∈L,∃ls b,v'.cl c=some (ls,b)∧A1 n ls∧2≤ls.length)∧v'.watches.length=v.watches.length:=by
      obtain⟨ho1,ho2⟩:=MX f
      cases hr with
      | none ht =>
        refine⟨fun _ _ q=>q,fun _ _ _ q=>.inl q,fun _ q=>.inl q,rfl,rfl,rfl,by omega,fun hbr=>?_,h1.all.inv.wc,rfl⟩
        rcases ht with ht | ht
        · obtain⟨y,q1,q2⟩:=JO.1 ht
          exact .inl ⟨y,(ho2 y).1 q1,(ho2 _).1 q2⟩
        · rw[hbr]at ht;cases ht
      | nil ht hb' he =>
        rw[Fe h1.brk]
        exact⟨fun _ _ q=>q,fun _ _ _ q=>.inl q,fun _ q=>.inl q,rfl,rfl,rfl,by show CD v.watches≤_;omega,fun hbr=>(by cases hbr),h1.all.inv.wc,rfl⟩
      | @put c ht hb' he hc =>
        have hp:(By v f).Perm (Ej f):=LW _ _
        have hm:∀z,z∈By v f↔z∈f:=fun z=>by rw[hp.mem_iff];exact ho2 z
        have hOl:(By v f).length≤12:=by rw[hp.length_eq];have:=IP f;omega
        have hOk:A1 n (By v f):=⟨fun q hq=>hf q ((hm q).1 hq),by omega⟩
        generalize By v f=O at *
        have hput:∀w:Sv,w.cl=AP v.cl c (O,false,false)→(∀c l,v.cl c=some l→w.cl c=some l)∧(∀c ls b,w.cl c=some (ls,b)→v.cl c=some (ls,b)∨((∃y∈f,-y∈f)∨∀y∈ls,y∈f)∧b=(false,false)∧A1 n ls)∧w.cl c=some (O,false,false):=fun w hw=>by
          rw[hw]
          refine⟨fun d l q=>?_,fun d ls b q=>?_,Aj _ _ _⟩
          · unfold AP
            rw[if_neg fun e=>by rw[e,hc]at q;cases q]
            exact q
          · rcases Bi        q with ⟨_, q2, q3⟩ | ⟨_, q2⟩
            · exact .inr ⟨.inr fun y hy=>(hm y).1 (by rw[← q2];exact hy),q3,by rw[q2];exact hOk⟩
            · exact .inl q2
        have hwc:=(h1.all.inv.withC hc hOk (false,false)).1
        have htot:CD (withC v c O (false,false)).watches≤CD v.watches+2:=IR _ _ _
        have hln:(withC v c O (false,false)).watches.length=v.watches.length:=O5 _ _ _
        have hb2:(withC v c O (false,false)).broken=false:=h1.brk
        unfold Jq
        rw[Ma]
        split
        · rw[Fe hb2]
          obtain⟨a1,a2,a3⟩:=hput ({ withC v c O (false,false)with broken:=true,trace:=(withC v c O (false,false)).trace++[(false,[])] }) rfl
          exact⟨a1,a2,fun d q=>.inl q,rfl,rfl,rfl,htot,fun hbr=>(by cases hbr),hwc.wc,hln⟩
        · split
          · obtain⟨a1,a2,a3⟩:=hput (BF (withC v c O (false,false)) (O.getD 0 0) (some c)) rfl
            refine⟨a1,a2,fun d q=>?_,rfl,rfl,rfl,htot,fun _=>.inr ⟨c,O,a3,fun y hy=>(hm y).1 hy⟩,hwc.wc,hln⟩
            rcases Dp q with z | z
            · exact .inl z
            · injection z with z
              right
              rw[← z,a3]
              exact fun y=>by cases y
          · obtain⟨a1,a2,a3⟩:=hput (withC v c O (false,false)) rfl
            exact⟨a1,a2,fun d q=>.inl q,rfl,rfl,rfl,htot,fun _=>.inr ⟨c,O,a3,fun y hy=>(hm y).1 hy⟩,hwc.wc,hln⟩
    obtain⟨o1,o2,o3,o4,o5,o6,o7,o8,o9,o10⟩:=old
    have real:Aw n (hide v')→Aw n v':=fun hi=>by
      obtain⟨⟨hz,hv,hli,hlm⟩,q2,q3,q4,q5⟩:=hi
      exact⟨⟨⟨hz.small,by rw[o10];exact h1.all.inv.fit.siz.w,hz.value,hz.level,hz.why,hz.heat,hz.phase,hz.trail,hz.limits⟩,hv,hli,hlm⟩,q2,q3,q4,o9⟩
    have htotv:=h1.cnt.tot
    rcases Uj h1.ci h2 h1.brk hf hlen (Xv hr)with⟨g1,g2,g3,g4,g5⟩ | ⟨g1,g2,g3,g4,g5,g6⟩
    · have g1 : v'.broken = false := g1
      have g4:v'.trace=v.trace:=g4
      have g5:v.trail.length≤v'.trail.length:=g5
      have ghd:v'.head=v.head:=g3.head
      have glm:v'.limits=v.limits:=g3.limits
      refine⟨.inl ⟨K,hK,⟨g1,?_,by rw[ghd];exact h1.h0,by rw[ghd];have:=h1.h1;omega,⟨real g2.ct.inv,fun c ls b q=>?_,fun d q=>?_,?_,by rw[o4];exact hcl.lnd,fun g hg=>?_⟩,⟨by omega,by rw[o5];exact h1.cnt.many,by rw[o4,g4];exact h1.cnt.trc,by rw[o6];exact h1.cnt.r0,by rw[o6];exact h1.cnt.r1⟩,hj⟩,by rw[glm];exact h2⟩,o5⟩
      · rw[ghd];exact g2
      · rcases o2 c ls b q with z | ⟨_, _, z⟩
        · exact hcl.all c ls b z
        · exact z
      · rcases o3 d q with z | z
        · cases hz:v.cl d with
          | none=>exact absurd hz (hcl.why d z)
          | some l=>rw[o1 d l hz];exact fun y=>by cases y
        · exact z
      · rw[o4]
        intro c hc
        obtain⟨ls,z⟩:=hcl.lrn c hc
        exact⟨ls,o1 c _ z⟩
      · rcases List.mem_append.1 hg with z | z
        · rcases hcl.cov g z with y | ⟨c, ls, y1, y2⟩
          · exact .inl y
          · exact .inr ⟨c,ls,o1 c _ y1,y2⟩
        · rw[List.mem_singleton.1 z];exact o8 g1
    · have g4 : v'.trace.length = v.trace.length + 1 := g4
      have g5:v'.trail=v.trail:=g5
      have ghd:v'.head=v.head:=g3.head
      have glm:v'.limits=v.limits:=g3.limits
      have htr:=h1.cnt.trc
      exact⟨.inr ⟨g1,⟨real g2,by omega,by rw[ghd];exact h1.h0,by rw[ghd,g5];exact h1.h1⟩,by rw[glm];exact h2,by omega,by rw[o5,h1.cnt.many];omega,g6,hj⟩,o5⟩
  · have e:v'=v:=by
      cases hr with
      | none _=>rfl
      | nil _ hb' _=>rw[h.brk]at hb';cases hb'
      | put _ hb' _ _=>rw[h.brk]at hb';cases hb'
    rw[e]at hj ⊢
    exact⟨.inr ⟨h.brk,h.inv,h.lim,h.trc,h.many,fun σ hσ=>h.no σ fun g hg=>hσ g (lE _ hg),hj⟩,rfl⟩
theorem Mg{E:BJ}(hE:Good E){B:Nat→Prop}{s:AG}{V:Nat→Option Sv}(h:B3 B s V){p:Nat}{v:Sv}(hp:V p=some v){n A:Nat}{F:List (List Int)}{M:Nat}{J J':Sv→Prop}(hI:Nv n A F M J v)(hbd:gw n A M){f:List Int}(hf:∀q∈f,VL n q)(hlen:f.length≤12)(hJ:∀v',KF v f v'→J' v'){b:Nat}{u:AV}(hb:b≤s.next)(hu:Ae b s u (A3 f))(hus:kG B u):
  WF E 36 [AJ p,u] (fun r s'=>r=iv 0∧∃v',Nv n (A+1) (F++[f]) M J' v'∧B3 B s' (Dr V p v')∧Dc B s s') s:=by
 obtain⟨ow,h1,h2⟩:=h
 obtain⟨x,hx⟩:=h1 p v hp
 obtain⟨i1,i2,i3,i4,i5⟩:=hI.inv hbd
 have hbk:=Fa i2
 have hn:=hbd.1
 refine(Uk hE hx i1.fit (by rw[hbk];exact i1.fit.val) i3 (by omega) hlen hf hb hu fun j hj=>?_).mono ?_
 ·obtain⟨r1,r2⟩:=h2 j (hus j hj)
  exact⟨fun q=>(by rw[q,hp]at r2;cases r2),r1⟩
 rintro _ s' ⟨rfl,v',ow',x',g1,g2,g3⟩
 rw[hbk]at g1
 obtain⟨k1,k2⟩:=hI.add hbd hf hlen g1 (hJ v' g1)
 obtain⟨k3,k4⟩:=B3.used h1 h2 hp g2 g3
 exact⟨rfl,v',k1,k3,k4⟩
theorem PN{E:BJ}(hE:Good E){B:Nat→Prop}{s:AG}{V:Nat→Option Sv}(h:B3 B s V){p:Nat}{v:Sv}(hp:V p=some v){n A:Nat}{F:List (List Int)}{M most:Nat}{J:Sv→Prop}(S:Fv n F J)(hI:Nv n A F M J v)(hbd:gw n A (M+most))(hF:∀f∈F,∀y∈f,VL n y):
    WF E 34 [AJ p,iv (most:Int)] (fun r s'=>∃ (c:Int) (v':Sv),r=iv c∧Nv n A F (M+most) J v'∧(c=0∧(∀σ,¬ BQ σ F)∧v'.broken=true∨c=1∧BQ (FD v'.model) F∨c=2)∧B3 B s' (Dr V p v')∧Dc B s s') s:=by
  obtain⟨ow,h1,h2⟩:=h
  obtain⟨x,hx⟩:=h1 p v hp
  obtain⟨b1,b2,b3⟩:=hbd
  have start:∃c0,c0≤M∧If n A F c0 most J 0 v:=by
    rcases hI with⟨K,g1,g2,g3⟩ | g
    · exact⟨K,g1,ku _,.inl g2⟩
    · exact⟨M,kp _,ku _,.inr ⟨g.brk,g.inv,g.lim,g.trc,by have:=g.many;omega,g.no,g.j⟩⟩
  obtain⟨c0,s1,s2⟩:=start
  obtain⟨i1,i2,_,_⟩:=hI.inv ⟨b1,b2,by omega⟩
  have hbk:=Fa i2
  refine(Mi hE (LV (A:=A) (c0:=c0) (most:=most) S b1 hF (by omega) (by omega)) (by omega) (by omega) hx i1.fit (by rw[hbk];exact s2)).mono ?_
  rintro _ s' ⟨c,v',ow',x',rfl,g1,g2,g3⟩
  obtain⟨k3,k4⟩:=B3.used h1 h2 hp g2 g3
  rcases g1 with⟨rfl,k⟩ | ⟨K,e1,e2,e3,e4⟩
  · exact⟨0,v',rfl,Nv.mono (.inr k) (by omega),.inl ⟨rfl,k.no,k.brk⟩,k3,k4⟩
  · refine ⟨c, v', rfl, .inl ⟨K, by omega, e2, e3⟩, .inr ?_, k3, k4⟩
    rcases e4 with⟨q1,_,q2⟩ | q
    · exact .inl ⟨q1,q2⟩
    · exact .inr q
theorem Mh{E:BJ}(hE:Good E){B:Nat→Prop}{s:AG}{V:Nat→Option Sv}(h:B3 B s V){n:Nat}(hn:n≤1000){J:Sv→Prop}(hJ:∀v,v.trace=[]→v.cl=(fun _=>none)→v.broken=false→J v):
    WF E 40 [iv (n:Int)] (fun r s'=>∃v,r=AJ s.next∧V s.next=none∧B3 B s' (Dr V s.next v)∧Dc B s s'∧Nv n 0 [] 0 J v) s:=by
  obtain⟨ow,h1,h2⟩:=h
  have hV:∀q,s.next≤q→V q=none:=fun q hq=>by
    cases hv:V q with
    | none=>rfl
    | some v =>
      obtain⟨x,hx⟩:=h1 _ v hv
      have:=hx.lt
      omega
  have st1:AH (fun t=>V t.1=none) ow s (fun j=>match V (ow j).1 with | none=>(s.next+1,0,0) | some _=>ow j) s:=⟨kp _,fun x hx hm=>by
    cases hv:V (ow x).1 with
    | none=>exact absurd hv hm
    | some v=>simp only[hv],fun _ _ _=>rfl⟩
  have h1':∀p v,V p=some v→∃x,Ac (fun j=>match V (ow j).1 with | none=>(s.next+1,0,0) | some _=>ow j) s p x v:=fun p v hp=>by
    obtain⟨x,hx⟩:=h1 p v hp
    exact⟨x,hx.keep st1 fun t ht e=>by rw[e,hp]at ht;cases ht⟩
  have h2':∀j,B j→j<s.next∧((fun j=>match V (ow j).1 with | none=>(s.next+1,0,0) | some _=>ow j:Ow) j)=(s.next+1,0,0):=fun j hj=>by
    obtain⟨r1,r2⟩:=h2 j hj
    exact⟨r1,by simp only[r2]⟩
  generalize (fun j=>match V (ow j).1 with | none=>(s.next+1,0,0) | some _=>ow j:Ow)=ow1 at *
  refine(YE hE ow1 (n:=n) (by omega)).mono ?_
  rintro _ s' ⟨ow',x',rfl,g1,g4⟩
  have hfr:=Ix n
  obtain⟨l1,l2⟩:=hfr.liveD (by omega) (hJ _ hfr.rest.2.2.2.2.2.2.1 hfr.rest.2.2.2.2.2.2.2.2.2 hfr.rest.2.2.2.2.1)
  have hB:∀j,B j→¬ BN s.next (ow1 j):=fun j hj q=>by
    have q:(ow1 j).1=s.next:=q
    rw[(h2' j hj).2]at q
    exact absurd q (by show s.next+1≠s.next;omega)
  have hnx:=g4.next
  refine⟨_,rfl,hV _ (kp _),⟨ow',fun q w hq=>?_,fun j hj=>?_⟩,⟨hnx,fun j hj=>g4.heap j (h2' j hj).1 (hB j hj)⟩,.inl ⟨0,kp _,l1,l2⟩⟩
  · by_cases e : q = s.next
    · rw[e,Ay]at hq
      injection hq with hq
      rw[← hq,e]
      exact⟨x',g1⟩
    · rw[FO e]at hq
      obtain⟨x,hx⟩:=h1' q w hq
      exact⟨x,hx.keep g4 fun t ht e'=>by rw[show t.1=s.next from ht]at e';exact e e'.symm⟩
  · obtain⟨r1,r2⟩:=h2' j hj
    refine⟨by omega,?_⟩
    rw[g4.tags j r1 (hB j hj),r2,FO (by show s.next+1≠s.next;omega)]
    exact hV _ (by omega)
theorem CI.follows {n : Nat} {F : List (List Int)} {v : Sv} (k : CI n F v.trail.length v) {f : List Int} (hf : f ∈ F) (ht : ∀ y ∈ f, -y ∉ f) {x : Int} (hx : x ∈ f) (ho : ∀ y ∈ f, y ≠ x → -y ∈ v.trail) : x ∈ v.trail := by
  have hi:=k.ct.inv
  rcases k.cover f hf with⟨y,h1,h2⟩ | ⟨c,ls,b,h1,h2⟩
  · exact absurd h2 (ht y h1)
  · obtain⟨c1,c2,c3,c4⟩:=k.ct.cls c ls b h1
    have hpos:=List.length_pos_iff.2 c2
    have m0:ls.getD 0 0∈ls:=kq (AQ hpos)
    by_cases hl1:ls.length=1
    · obtain⟨u1,_⟩:=k.unit c ls b h1 hl1
      by_cases e:ls.getD 0 0=x
      · rw[← e];exact u1
      · exact(hi.two u1 (ho _ (h2 _ m0) e)).elim
    · have h2l : 2 ≤ ls.length := by omega
      have m1:ls.getD 1 0∈ls:=kq (AQ (by omega))
      have hok:=(k.cw.wok c ls b h1 h2l).2 (by simp)
      unfold GT at hok
      rw[lz]at hok
      by_cases e:ls.getD 0 0=x
      · have e1:ls.getD 1 0≠x:=fun q=>by
          have:=DW c3 (i:=0) (j:=1) (by omega) (by omega) (by rw[e,q])
          cases this
        rw[← e]
        exact(hok.2 (ho _ (h2 _ m1) e1)).1
      · have hin:=(hok.1 (ho _ (h2 _ m0) e)).1
        by_cases e1:ls.getD 1 0=x
        · rw[← e1];exact hin
        · exact(hi.two hin (ho _ (h2 _ m1) e1)).elim
def Ud(n:Nat)(F:List (List Int)):Prop:=∀v,CI n F v.trail.length v→∀j,1≤j→j≤n→v.value.getD j 0≠0
theorem PB       {n : Nat} {F : List (List Int)} (h1 : [1] ∈ F) (h2 : ∀ i : Nat, 1 ≤ i → i < n → [-(i : Int), (i : Int) + 1] ∈ F) : Ud   n F := by
  intro v k j hj hjn
  have hin:∀i:Nat,i+1≤n→((i+1:Nat):Int)∈v.trail:=by
    intro i
    induction i with
    | zero =>
      intro _
      refine k.follows h1 (fun y hy=>?_) (List.mem_singleton.2 rfl) fun y hy hne=>absurd (List.mem_singleton.1 hy) hne
      rw[List.mem_singleton.1 hy]
      decide
    | succ i ih =>
      intro hi
      have hp:=ih (by omega)
      have hm:=h2 (i+1) (by omega) (by omega)
      refine k.follows hm (fun y hy hz=>?_) (x:=((i+1+1:Nat):Int)) (by simp) fun y hy hne=>?_
      · simp only[lM,mR,or_false]at hy hz
        omega
      · simp only[lM,mR,or_false]at hy
        rcases hy with e | e
        · rw[e,lp];exact hp
        · exact absurd (by rw[e];omega) hne
  have:=hin (j - 1) (by omega)
  rw[show j - 1+1=j by omega]at this
  have hv:=k.ct.inv.holds _ this
  rw[l7]at hv
  rw[hv]
  unfold Pc
  split<;>omega
theorem MD:∀ (Ls:List Nat)(m:Nat)(v:Sv),(BS Ls m v).1.limits=v.limits
 | [],m,v=>rfl
 | c::Ls,m,v=>by
  unfold BS
  dsimp only
  rw[MD Ls]
  unfold CE
  cases v.cl c<;>rfl
theorem SD{n A:Nat}{F:List (List Int)}{c0 most:Nat}{J:Sv→Prop}(S:Fv n F J)(hfull:Ud n F)(hn:n≤1000)(hF:∀f∈F,∀y∈f,VL n y)(hA:A≤1000000)(hb:c0+most≤200000):
  FY n most (fun k v=>If n A F c0 most J k v∧v.limits=[]) (fun r v=>Uf n A F c0 most J r v∧r≠2):=by
 have h:=LV (n:=n) (A:=A) (F:=F) (c0:=c0) (most:=most) S hn hF hA hb
 have lim:∀ {k v c v1},If n A F c0 most J k v∧v.limits=[]→Bl v c v1→v1.limits=[]:=fun hI hp=>by
  obtain⟨_,hi⟩:=h.ok hI.1
  rw[(hp.keep hi).2,hI.2]
 refine⟨fun hI=>h.ok hI.1,fun hI hbr=>⟨h.brk hI.1 hbr,by decide⟩,fun hI hbr hp=>h.mid hI.1 hbr hp,fun hI hbr hp hl=>⟨h.fail hI.1 hbr hp hl,by decide⟩,fun hI hbr hp hl hk=>absurd (lim hI hp) hl,fun hI hbr hp hl hk=>absurd (lim hI hp) hl,fun hI hbr hp hh hhl=>?_,fun hI hbr hp hall=>⟨h.maybe hI.1 hbr hp hall,by decide⟩,fun hI hbr hp h1 h2 h3=>?_⟩
 ·rename_i k v v1
  obtain⟨q1,q2⟩:=h.cool hI.1 hbr hp hh hhl
  have hl:(AW (At v1 hh) 0).limits=[]:=by
   have e0:=lim hI hp
   have e:(At v1 hh).limits=[]:=e0
   rw[Fa e];exact e
  refine⟨fun r=>⟨q1 r,hl⟩,fun r=>?_⟩
  obtain⟨a,b,c,d⟩:=q2 r
  refine⟨⟨a,?_⟩,b,c,d⟩
  have:(G8 (AW (At v1 hh) 0)).limits=(AW (At v1 hh) 0).limits:=MD _ _ _
  rw[this];exact hl
 ·rename_i k v v1 b
  obtain⟨hk,hL | hD⟩:=hI.1
  ·obtain⟨p1,p2,p3,p4,p5,p6,p7,p8⟩:=Cq S hL (by omega) hp
   exact absurd h3 (hfull (hide v1) (p7 rfl).1 b h1 h2)
  ·rw[hD.brk]at hbr;cases hbr
theorem Jh{E:BJ}(hE:Good E){B:Nat→Prop}{s:AG}{V:Nat→Option Sv}(h:B3 B s V){p:Nat}{v:Sv}(hp:V p=some v){n A:Nat}{F:List (List Int)}{M most:Nat}{J:Sv→Prop}(S:Fv n F J)(hfull:Ud n F)(hI:Nv n A F M J v)(hbd:gw n A (M+most))(hF:∀f∈F,∀y∈f,VL n y):
    WF E 34 [AJ p,iv (most:Int)] (fun r s'=>∃ (c:Int) (v':Sv),r=iv c∧Nv n A F (M+most) J v'∧(c=0∧(∀σ,¬ BQ σ F)∨c=1∧BQ (FD v'.model) F)∧B3 B s' (Dr V p v')∧Dc B s s') s:=by
  obtain⟨ow,h1,h2⟩:=h
  obtain⟨x,hx⟩:=h1 p v hp
  obtain⟨b1,b2,b3⟩:=hbd
  have start:∃c0,c0≤M∧If n A F c0 most J 0 v:=by
    rcases hI with⟨K,g1,g2,g3⟩ | g
    · exact⟨K,g1,ku _,.inl g2⟩
    · exact⟨M,kp _,ku _,.inr ⟨g.brk,g.inv,g.lim,g.trc,by have:=g.many;omega,g.no,g.j⟩⟩
  obtain⟨c0,s1,s2⟩:=start
  obtain⟨i1,i2,_,_⟩:=hI.inv ⟨b1,b2,by omega⟩
  have hbk:=Fa i2
  refine(Mi hE (SD (A:=A) (c0:=c0) (most:=most) S hfull b1 hF (by omega) (by omega)) (by omega) (by omega) hx i1.fit (by rw[hbk];exact⟨s2,i2⟩)).mono ?_
  rintro _ s' ⟨c,v',ow',x',rfl,⟨g1,gne⟩,g2,g3⟩
  obtain⟨k3,k4⟩:=B3.used h1 h2 hp g2 g3
  rcases g1 with⟨rfl,k⟩ | ⟨K,e1,e2,e3,e4⟩
  · exact⟨0,v',rfl,Nv.mono (.inr k) (by omega),.inl ⟨rfl,k.no⟩,k3,k4⟩
  · refine ⟨c, v', rfl, .inl ⟨K, by omega, e2, e3⟩, .inr ?_, k3, k4⟩
    rcases e4 with⟨q1,_,q2⟩ | q
    · exact⟨q1,q2⟩
    · exact absurd q gne
theorem JM(n:Nat)(F:List (List Int)):Fv n F fun _=>True:=⟨fun _ _ _ _=>trivial,fun _ _ _ _ _ _=>trivial,fun _ _ _ _ _ _ _ _ _=>trivial,fun _ _ _ _=>trivial⟩
abbrev Yz(n A:Nat)(F:List (List Int))(M:Nat)(v:Sv):Prop:=Nv n A F M (fun _=>True) v
theorem Jw{E:BJ}(hE:Good E){B:Nat→Prop}{s:AG}{V:Nat→Option Sv}(h:B3 B s V){p:Nat}{v:Sv}(hp:V p=some v){n A:Nat}{F:List (List Int)}{M:Nat}(hI:Yz n A F M v)(hbd:gw n A M){f:List Int}(hf:∀q∈f,VL n q)(hlen:f.length≤12)(hne:f≠[]){K:AV→AG→Prop}
  (hK:∀s' v',Yz n (A+1) (F++[f]) M v'→B3 B s' (Dr V p v')→Dc B s s'→K (iv 0) s'):
  WF E 36 [.ptr (some (p,0)),.slice (some (s.next,0)) f.length (some f.length)] K (newObj s (AO 3 1 (A3 f))):=by
 have ho:=B6.new s (AO 3 1 (A3 f))
 have h1:=h.old ho
 obtain⟨g1,g2⟩:=PD (s:=s) (L:=f) hne
 have hk1:=Dc.old h ho
 have hadd:=Mg hE h1 hp hI hbd (J':=fun _=>True) hf hlen (fun _ _=>trivial) (b:=s.next+1) (kp _) g1 (fun j hj=>by rw[g2 j hj];exact .inr ⟨kp _,lW _⟩)
 refine hadd.mono ?_
 rintro _ s' ⟨rfl,v',q1,q3,q4⟩
 exact hK s' v' q1 (q3.less fun j hj=>.inl hj) (hk1.trans (q4.mono fun j hj=>.inl hj))
end
end Go.Proofs.Ytilhhmkdcoajnaa.Am
set_option linter.unusedVariables false
set_option linter.unusedSimpArgs false
namespace Go.Proofs.Ytilhhmkdcoajnaa.Am
open Go Go.Proofs
noncomputable section
def iq:List AA:=[
 ⟨none,.p1 some,[(.const (.bool false))],(.set 2),[]⟩]
def ir:List AA:=[
 ⟨none,.call 37,[],.push,[]⟩,
 ⟨none,.p1 (G3 Try.prog Go.UnOp.not),[.loc 0],(.set 15),[]⟩]
def jx:List AA:=[
 ⟨none,.p1 some,[(.const (.bool false))],(.set 2),[]⟩]
def iy:List AA:=[
 ⟨none,.p2 (AM Try.prog .rem 5),[(.var 0),(.const (.int .u8 (3)))],.push,[]⟩,
 ⟨none,.r1 (fun s x=>Ck Try.prog s 5 3 x),[.loc 0],.push,[]⟩,
 ⟨none,.p2 (AM Try.prog .add 3),[(.const (.int .i64 (2))),(.loc 0)],.push,[]⟩,
 ⟨none,.p1 some,[.loc 0],(.set 3),[]⟩]
def iz:List AA:=[
 ⟨none,.p1 some,[.var 3],(.set 4),[]⟩]
def fZ:List AA:=[
 ⟨none,.p2 (AM Try.prog .add 3),[(.var 3),(.const (.int .i64 (1)))],.push,[]⟩,
 ⟨none,.p2 (AM Try.prog .leq 3),[.var 4,.loc 0],(.set 16),[]⟩]
def jB:List AA:=[
 ⟨none,.p2 (AM Try.prog .mul 3),[.var 4,.var 3],.push,[]⟩,
 ⟨none,.call 40,[.loc 0],.push,[]⟩,
 ⟨none,.p1 some,[.loc 0],(.set 5),[]⟩]
def jC:List AA:=[
 ⟨none,.p1 some,[(.const (.int .i64 (0)))],(.set 6),[]⟩]
def fa:List AA:=[
 ⟨none,.p2 (AM Try.prog .lss 3),[.var 6,.var 4],(.set 17),[]⟩]
def jD:List AA:=[
 ⟨none,.p1 some,[(.const (.slice none 0 (some 0)))],(.set 7),[]⟩]
def eE:List AA:=[
 ⟨none,.p1 some,[(.const (.int .i64 (1)))],(.set 8),[]⟩]
def XQ:List AA:=[
 ⟨none,.p2 (AM Try.prog .leq 3),[.var 8,.var 3],(.set 18),[]⟩]
def eF:List AA:=[
 ⟨none,.p1 some,[.var 7],.push,[]⟩,
 ⟨none,.p2 (AM Try.prog .mul 3),[.var 6,.var 3],.push,[]⟩,
 ⟨none,.p2 (AM Try.prog .add 3),[.loc 0,.var 8],.push,[]⟩,
 ⟨none,.mk (fun l=>(Ab Try.prog 23 1 (zipIdx [0] l)).bind fun r=>some (r,.slice 1)),[.loc 0],.push,[]⟩,
 ⟨none,.e (fun s l=>Ad Try.prog s [23,23] l),[.loc 3,.loc 0],.push,[]⟩,
 ⟨none,.p1 some,[.loc 0],(.set 7),[]⟩]
def eG:List AA:=[
 ⟨none,.p1 some,[.var 8],.push,[]⟩,
 ⟨none,.p2 (AM Try.prog .add 3),[(.loc 0),(.const (.int .i64 (1)))],.push,[]⟩,
 ⟨none,.p1 some,[.loc 0],(.set 8),[]⟩]
def OH:Aa:=(.seq (.seq (.ops XQ) (.cond (.var 18)
 .skip
 (.exit 4))) (.seq (.block 5 (.ops eF)) (.ops eG)))
def eH:List AA:=[
 ⟨none,.call 36,[.var 5,.var 7],.push,[]⟩]
def eI:List AA:=[
 ⟨none,.p1 some,[(.const (.int .i64 (0)))],(.set 9),[]⟩]
def XR:List AA:=[
 ⟨none,.p2 (AM Try.prog .lss 3),[.var 9,.var 6],(.set 19),[]⟩]
def eJ:List AA:=[
 ⟨none,.p1 some,[(.const (.int .i64 (1)))],(.set 10),[]⟩]
def XS:List AA:=[
 ⟨none,.p2 (AM Try.prog .leq 3),[.var 10,.var 3],(.set 20),[]⟩]
def eK:List AA:=[
 ⟨none,.p2 (AM Try.prog .mul 3),[.var 6,.var 3],.push,[]⟩,
 ⟨none,.p2 (AM Try.prog .add 3),[.loc 0,.var 10],.push,[]⟩,
 ⟨none,.p1 (G3 Try.prog Go.UnOp.neg),[.loc 0],.push,[]⟩,
 ⟨none,.p2 (AM Try.prog .mul 3),[.var 9,.var 3],.push,[]⟩,
 ⟨none,.p2 (AM Try.prog .add 3),[.loc 0,.var 10],.push,[]⟩,
 ⟨none,.p1 (G3 Try.prog Go.UnOp.neg),[.loc 0],.push,[]⟩,
 ⟨none,.mk (fun l=>(Ab Try.prog 23 2 (zipIdx [0,1] l)).bind fun r=>some (r,.slice 2)),[.loc 3,.loc 0],.push,[]⟩,
 ⟨none,.call 36,[.var 5,.loc 0],.push,[]⟩]
def eM:List AA:=[
 ⟨none,.p1 some,[.var 10],.push,[]⟩,
 ⟨none,.p2 (AM Try.prog .add 3),[(.loc 0),(.const (.int .i64 (1)))],.push,[]⟩,
 ⟨none,.p1 some,[.loc 0],(.set 10),[]⟩]
def OI:Aa:=(.seq (.seq (.ops XS) (.cond (.var 20)
 .skip
 (.exit 8))) (.seq (.block 9 (.ops eK)) (.ops eM)))
def eO:List AA:=[
 ⟨none,.p1 some,[.var 9],.push,[]⟩,
 ⟨none,.p2 (AM Try.prog .add 3),[(.loc 0),(.const (.int .i64 (1)))],.push,[]⟩,
 ⟨none,.p1 some,[.loc 0],(.set 9),[]⟩]
def OJ:Aa:=(.seq (.seq (.ops XR) (.cond (.var 19)
 .skip
 (.exit 6))) (.seq (.block 7 (.seq (.ops eJ) (.block 8 (.loop OI)))) (.ops eO)))
def eP:List AA:=[
 ⟨none,.p1 some,[.var 6],.push,[]⟩,
 ⟨none,.p2 (AM Try.prog .add 3),[(.loc 0),(.const (.int .i64 (1)))],.push,[]⟩,
 ⟨none,.p1 some,[.loc 0],(.set 6),[]⟩]
def OK:Aa:=(.seq (.seq (.ops fa) (.cond (.var 17)
 .skip
 (.exit 2))) (.seq (.block 3 (.seq (.ops jD) (.seq (.seq (.ops eE) (.block 4 (.loop OH))) (.seq (.ops eH) (.seq (.ops eI) (.block 6 (.loop OJ))))))) (.ops eP)))
def eQ:List AA:=[
 ⟨none,.call 34,[(.var 5),(.const (.int .i64 (100000)))],.push,[]⟩,
 ⟨none,.p1 some,[.loc 0],(.set 11),[]⟩]
def XT:List AA:=[
 ⟨none,.p2 (AM Try.prog .eql 3),[.var 4,.var 3],.push,[]⟩,
 ⟨(some ((.loc 0),true)),.p1 some,[.var 11],.push,[]⟩,
 ⟨(some ((.loc 1),true)),.p2 (AM Try.prog .eql 3),[(.loc 0),(.const (.int .i64 (0)))],.push,[]⟩,
 ⟨none,.p Rn,[(.loc 2),(.loc 0),(.const (.bool false))],.push,[]⟩,
 ⟨(some ((.loc 0),false)),.p1 some,[.var 4],.push,[]⟩,
 ⟨(some ((.loc 1),false)),.p1 some,[.var 3],.push,[]⟩,
 ⟨(some ((.loc 2),false)),.p2 (AM Try.prog .gtr 3),[.loc 1,.loc 0],.push,[]⟩,
 ⟨(some ((.loc 3),false)),.p1 some,[.loc 0],.push,[]⟩,
 ⟨(some ((.loc 0),true)),.p1 some,[.var 11],.push,[]⟩,
 ⟨(some ((.loc 1),true)),.p2 (AM Try.prog .eql 3),[(.loc 0),(.const (.int .i64 (1)))],.push,[]⟩,
 ⟨(some ((.loc 6),false)),.p Rn,[(.loc 2),(.loc 0),(.const (.bool false))],.push,[]⟩,
 ⟨none,.p Rn,[(.loc 7),(.const (.bool true)),(.loc 0)],(.set 21),[]⟩]
def iu:List AA:=[
 ⟨none,.p1 some,[(.const (.bool false))],(.set 2),[]⟩]
def XU:List AA:=[
 ⟨none,.p1 some,[.var 4],.push,[]⟩,
 ⟨none,.p2 (AM Try.prog .add 3),[(.loc 0),(.const (.int .i64 (1)))],.push,[]⟩,
 ⟨none,.p1 some,[.loc 0],(.set 4),[]⟩]
def OL:Aa:=(.seq (.seq (.ops fZ) (.cond (.var 16)
 .skip
 (.exit 0))) (.seq (.block 1 (.seq (.ops jB) (.seq (.seq (.ops jC) (.block 2 (.loop OK))) (.seq (.ops eQ) (.seq (.ops XT) (.cond (.var 21)
 (.seq (.ops iu) .ret)
 .skip)))))) (.ops XU)))
def eR:List AA:=[
 ⟨none,.p2 (AM Try.prog .rem 5),[(.var 1),(.const (.int .u8 (40)))],.push,[]⟩,
 ⟨none,.r1 (fun s x=>Ck Try.prog s 5 3 x),[.loc 0],.push,[]⟩,
 ⟨none,.p2 (AM Try.prog .add 3),[(.const (.int .i64 (2))),(.loc 0)],.push,[]⟩,
 ⟨none,.p1 some,[.loc 0],(.set 12),[]⟩]
def eS:List AA:=[
 ⟨none,.call 40,[.var 12],.push,[]⟩,
 ⟨none,.p1 some,[.loc 0],(.set 13),[]⟩]
def eU:List AA:=[
 ⟨none,.p1 some,[(.const (.int .i64 (1)))],(.set 14),[]⟩]
def XV:List AA:=[
 ⟨none,.p2 (AM Try.prog .lss 3),[.var 14,.var 12],(.set 22),[]⟩]
def eV:List AA:=[
 ⟨none,.p1 (G3 Try.prog Go.UnOp.neg),[.var 14],.push,[]⟩,
 ⟨none,.p2 (AM Try.prog .add 3),[(.var 14),(.const (.int .i64 (1)))],.push,[]⟩,
 ⟨none,.mk (fun l=>(Ab Try.prog 23 2 (zipIdx [0,1] l)).bind fun r=>some (r,.slice 2)),[.loc 1,.loc 0],.push,[]⟩,
 ⟨none,.call 36,[.var 13,.loc 0],.push,[]⟩]
def eW:List AA:=[
 ⟨none,.p1 some,[.var 14],.push,[]⟩,
 ⟨none,.p2 (AM Try.prog .add 3),[(.loc 0),(.const (.int .i64 (1)))],.push,[]⟩,
 ⟨none,.p1 some,[.loc 0],(.set 14),[]⟩]
def OM:Aa:=(.seq (.seq (.ops XV) (.cond (.var 22)
 .skip
 (.exit 10))) (.seq (.block 11 (.ops eV)) (.ops eW)))
def eX:List AA:=[
 ⟨none,.mk (fun l=>(Ab Try.prog 23 1 (zipIdx [0] l)).bind fun r=>some (r,.slice 1)),[(.const (.int .i64 (1)))],.push,[]⟩,
 ⟨none,.call 36,[.var 13,.loc 0],.push,[]⟩]
def eY:List AA:=[
 ⟨none,.call 34,[(.var 13),(.const (.int .i64 (0)))],.push,[]⟩,
 ⟨none,.p2 (AM Try.prog .neq 3),[(.loc 0),(.const (.int .i64 (1)))],.push,[]⟩,
 ⟨(some ((.loc 0),false)),.p1 some,[.var 13],.push,[]⟩,
 ⟨(some ((.loc 1),false)),.p1 some,[.var 12],.push,[]⟩,
 ⟨(some ((.loc 2),false)),.call 41,[.loc 1,.loc 0],.push,[]⟩,
 ⟨(some ((.loc 3),false)),.p1 (G3 Try.prog Go.UnOp.not),[.loc 0],.push,[]⟩,
 ⟨none,.p Rn,[(.loc 4),(.const (.bool true)),(.loc 0)],(.set 23),[]⟩]
def jA:List AA:=[
 ⟨none,.p1 some,[(.const (.bool false))],(.set 2),[]⟩]
def eZ:List AA:=[
 ⟨none,.p1 (G3 Try.prog Go.UnOp.neg),[.var 12],.push,[]⟩,
 ⟨none,.mk (fun l=>(Ab Try.prog 23 1 (zipIdx [0] l)).bind fun r=>some (r,.slice 1)),[.loc 0],.push,[]⟩,
 ⟨none,.call 36,[.var 13,.loc 0],.push,[]⟩]
def eb:List AA:=[
 ⟨none,.call 34,[(.var 13),(.const (.int .i64 (0)))],.push,[]⟩,
 ⟨none,.p2 (AM Try.prog .eql 3),[(.loc 0),(.const (.int .i64 (0)))],.push,[]⟩,
 ⟨none,.p1 some,[.loc 0],(.set 2),[]⟩]
def c9:As:=⟨2,24,(.seq (.ops iq) (.seq (.seq (.ops ir) (.cond (.var 15)
 (.seq (.ops jx) .ret)
 .skip)) (.seq (.ops iy) (.seq (.seq (.ops iz) (.block 0 (.loop OL))) (.seq (.ops eR) (.seq (.ops eS) (.seq (.seq (.ops eU) (.block 10 (.loop OM))) (.seq (.ops eX) (.seq (.seq (.ops eY) (.cond (.var 23)
 (.seq (.ops jA) .ret)
 .skip)) (.seq (.ops eZ) (.seq (.ops eb) .ret))))))))))),[((.var 2),none)]⟩
theorem jE:AR Try.prog 9=some c9:=by kernel_rfl
end
end Go.Proofs.Ytilhhmkdcoajnaa.Am
set_option linter.unusedVariables false
set_option linter.unusedSimpArgs false
set_option maxRecDepth 16000
namespace Go.Proofs.Ytilhhmkdcoajnaa.Am
open Go Go.Proofs
noncomputable section
def PA(h b:Nat):List Int:=(List.range h).map fun k=>((b * h+(k+1):Nat):Int)
def GI(h b o k:Nat):List Int:=[-((b * h+k:Nat):Int),-((o * h+k:Nat):Int)]
def TK(h birds:Nat)(f:List Int):Prop:=(∃b,b<birds∧f=PA h b)∨∃b o k,o<b∧b<birds∧1≤k∧k≤h∧f=GI h b o k
structure Pg(h birds r b o k:Nat)(F:List (List Int)):Prop where
 kind:∀f∈F,TK h birds f
 rows:∀b',b'<r→PA h b'∈F
 pairs:∀b' o' k',o'<b'→1≤k'→k'≤h→(b'<b∨b'=b∧(o'<o∨o'=o∧k'<k))→GI h b' o' k'∈F
theorem ID{h birds b k:Nat}(hb:b<birds)(hk:k≤h):b * h+k≤birds * h:=by
 have:(b+1) * h≤birds * h:=mK h hb
 rw[Nat.succ_mul]at this
 omega
theorem TK.lits{h birds:Nat}{f:List Int}(hf:TK h birds f):∀y∈f,VL (birds * h) y:=by
 rcases hf with⟨b,hb,rfl⟩ | ⟨b,o,k,h1,h2,h3,h4,rfl⟩
 ·intro y hy
  obtain⟨k,hk,rfl⟩:=List.mem_map.1 hy
  rw[List.mem_range]at hk
  have:=ID hb (k:=k+1) hk
  exact⟨by omega,by omega⟩
 ·intro y hy
  have g1:=ID h2 h4
  have g2:=ID (Nat.lt_trans h1 h2) h4
  simp only[GI,lM,mR,or_false]at hy
  rcases hy with e | e
  ·rw[e];exact⟨by omega,by omega⟩
  ·rw[e];exact⟨by omega,by omega⟩
theorem Pg.lits{h birds r b o k:Nat}{F:List (List Int)}(g:Pg h birds r b o k F):∀f∈F,∀y∈f,VL (birds * h) y:=fun f hf=>(g.kind f hf).lits
theorem Pg.row{h birds b:Nat}{F:List (List Int)}(g:Pg h birds b b 0 1 F)(hb:b<birds):Pg h birds (b+1) b 0 1 (F++[PA h b]):=by
  refine⟨fun f hf=>?_,fun b' hb'=>?_,fun b' o' k' q1 q2 q3 q4=>lE _ (g.pairs b' o' k' q1 q2 q3 q4)⟩
  · rcases List.mem_append.1 hf with q | q
    · exact g.kind f q
    · rw[List.mem_singleton.1 q];exact .inl ⟨b,hb,rfl⟩
  · rcases ks           b' b with q | q
    · exact lE _ (g.rows b' q)
    · rw[show b'=b by omega]
      exact lU _ (List.mem_singleton.2 rfl)
theorem Pg.pair{h birds r b o k:Nat}{F:List (List Int)}(g:Pg h birds r b o k F)(ho:o<b)(hb:b<birds)(h1:1≤k)(hk:k≤h):Pg h birds r b o (k+1) (F++[GI h b o k]):=by
  refine⟨fun f hf=>?_,fun b' hb'=>lE _ (g.rows b' hb'),fun b' o' k' q1 q2 q3 q4=>?_⟩
  · rcases List.mem_append.1 hf with q | q
    · exact g.kind f q
    · rw[List.mem_singleton.1 q];exact .inr ⟨b,o,k,ho,hb,h1,hk,rfl⟩
  · by_cases e : b' = b ∧ o' = o ∧ k' = k
    · obtain⟨rfl,rfl,rfl⟩:=e
      exact lU _ (List.mem_singleton.2 rfl)
    · refine lE _ (g.pairs b' o' k' q1 q2 q3 ?_)
      omega
theorem Pg.other{h birds r b o:Nat}{F:List (List Int)}(g:Pg h birds r b o (h+1) F):Pg h birds r b (o+1) 1 F:=
 ⟨g.kind,g.rows,fun b' o' k' q1 q2 q3 q4=>g.pairs b' o' k' q1 q2 q3 (by omega)⟩
theorem Pg.bird{h birds b:Nat}{F:List (List Int)}(g:Pg h birds (b+1) b b 1 F):Pg h birds (b+1) (b+1) 0 1 F:=
 ⟨g.kind,g.rows,fun b' o' k' q1 q2 q3 q4=>g.pairs b' o' k' q1 q2 q3 (by omega)⟩
theorem aH{b h:Nat}(hb:b≤1000)(hh:h≤1000):AM Try.prog .mul 3 (iv (b:Int)) (iv (h:Int))=some (iv ((b * h:Nat):Int)):=by
 have h1:b * h≤1000 * 1000:=mZ hb hh
 have e:(b:Int) * (h:Int)=((b * h:Nat):Int):=(Int.natCast_mul b h).symm
 rw[Jy Try.prog 3 (b:Int) (h:Int) (by rw[e];constructor<;>omega),e]
theorem Lo{a k:Nat}(ha:a≤10000000)(hk:k≤10000000):AM Try.prog .add 3 (iv (a:Int)) (iv (k:Int))=some (iv ((a+k:Nat):Int)):=by
 rw[Ao Try.prog 3 (a:Int) (k:Int) ⟨by omega,by omega⟩]
 congr 2
theorem aK{a:Nat}(ha:a≤10000000):G3 Try.prog .neg (iv (a:Int))=some (iv (-(a:Int))):=FT Try.prog (a:Int) ⟨by omega,by omega⟩
section
variable{E:BJ}{B:Nat→Prop}{V:Nat→Option Sv}{p h birds:Nat}
theorem T8(hE:Good E)(hh:h≤4)(hbi:birds≤5){b o:Nat}(ho:o<b)(hb:b<birds){s0:AG}(v0 v1 v2 v7 v8 v11 v12 v13 v14 v15 v16 v17 v18 v19 v21 v22 v23:AV){Q:Ar→Prop}
  (hq:∀s' v F y20,B3 B s' (Dr V p v)→Dc B s0 s'→Yz (birds * h) F.length F 0 v→Pg h birds (b+1) b o (h+1) F→F.length≤30 * b+1+5 * (o+1)→Q ⟨.exit 8,[v0,v1,v2,iv (h:Int),iv (birds:Int),AJ p,iv (b:Int),v7,v8,iv (o:Int),iv ((h+1:Nat):Int),v11,v12,v13,v14,v15,v16,v17,v18,v19,y20,v21,v22,v23],[],s'⟩):
  ∀ (m k:Nat) (s:AG) (v:Sv) (F:List (List Int)) (x20:AV),h+1 - k=m→1≤k→k≤h+1→B3 B s (Dr V p v)→Dc B s0 s→Yz (birds * h) F.length F 0 v→Pg h birds (b+1) b o k F→F.length≤30 * b+1+5 * o+(k - 1) →
   WC E none (.loop OI) Q [v0,v1,v2,iv (h:Int),iv (birds:Int),AJ p,iv (b:Int),v7,v8,iv (o:Int),iv (k:Int),v11,v12,v13,v14,v15,v16,v17,v18,v19,x20,v21,v22,v23] [] s:=by
 have hn:birds * h≤20:=lF (mZ hbi hh) (by decide)
 have hmv:∀ (m:Nat) (i:Nat),Made.val i (.slice m)=.slice (some (i,0)) m (some m):=fun _ _=>rfl
 intro m
 induction m with
 | zero =>
  intro k s v F x20 hm h1 hk hS hK hI hP hl
  have hke:k=h+1:=by omega
  subst hke
  have hd:decide (((h+1:Nat):Int)≤(h:Int))=false:=decide_eq_false (by omega)
  refine WC.loop' ?_
  simp only[OI,XS,hd,Qa,Qb,Qc,Qd,Qe,Qf,Qg,Qh,Qi,Qj,Qk,Ql,Qm,Qn,true_and,and_true,Qo,Qp,Qq,Qr,Qs,Qt,Qu,Qv,Qw,Qx,Qy,Qz,Ra,Rb,Rc,Rd,Re,Rf,Rg,Rh,Ri,Rj,Rk,Rl,Rm,Ya,Yb,Yc,Rn,Ro,Rp,Yd,Ye,Rq,Rs,Rt,Ru,Rv,Rw,Rx]
  exact hq s v F _ hS hK hI hP (by omega)
 | succ m ih =>
  intro k s v F x20 hm h1 hk hS hK hI hP hl
  have hkh:k≤h:=by omega
  have hd:decide ((k:Int)≤(h:Int))=true:=decide_eq_true (by omega)
  have hbh:=ID hb hkh
  have hoh:=ID (Nat.lt_trans ho hb) hkh
  have m1:=aH (b:=b) (h:=h) (by omega) (by omega)
  have m2:=aH (b:=o) (h:=h) (by omega) (by omega)
  have a1:=Lo (a:=b * h) (k:=k) (by omega) (by omega)
  have a2:=Lo (a:=o * h) (k:=k) (by omega) (by omega)
  have n1:=aK (a:=b * h+k) (by omega)
  have n2:=aK (a:=o * h+k) (by omega)
  have a3:=Lo (a:=k) (k:=1) (by omega) (by decide)
  have e1:iv ((1:Nat):Int)=iv 1:=rfl
  rw[e1]at a3
  have hkind:TK h birds (GI h b o k):=.inr ⟨b,o,k,ho,hb,h1,hkh,rfl⟩
  refine WC.loop' ?_
  generalize hW:WC E none (Aa.loop OI) Q=W at ih ⊢
  simp only[OI,XS,hd,eK,m1,m2,a1,a2,n1,n2,Fc,hmv,AJ,Qa,Qb,Qc,Qd,Qe,Qf,Qg,Qh,Qi,Qj,Qk,Ql,Qm,Qn,true_and,and_true,Qo,Qp,Qq,Qr,Qs,Qt,Qu,Qv,Qw,Qx,Qy,Qz,Ra,Rb,Rc,Rd,Re,Rf,Rg,Rh,Ri,Rj,Rk,Rl,Rm,Ya,Yb,Yc,Rn,Ro,Rp,Yd,Ye,Rq,Rs,Rt,Ru,Rv,Rw,Rx]
  refine Jw hE hS (Ay V p v) hI ⟨by omega,by omega,by omega⟩ (f:=GI h b o k) hkind.lits (by simp[GI]) (by simp[GI]) ?_
  intro s' v' g1 g2 g3
  rw[CJ]at g2
  simp only[eM,a3,Qa,Qb,Qc,Qd,Qe,Qf,Qg,Qh,Qi,Qj,Qk,Ql,Qm,Qn,true_and,and_true,Qo,Qp,Qq,Qr,Qs,Qt,Qu,Qv,Qw,Qx,Qy,Qz,Ra,Rb,Rc,Rd,Re,Rf,Rg,Rh,Ri,Rj,Rk,Rl,Rm,Ya,Yb,Yc,Rn,Ro,Rp,Yd,Ye,Rq,Rs,Rt,Ru,Rv,Rw,Rx]
  subst hW
  exact ih (k+1) s' v' (F++[GI h b o k]) _ (by omega) (by omega) (by omega) g2 (hK.trans g3) (by rw[kr];exact g1) (hP.pair ho hb h1 hkh) (by rw[kr];simp only[lO,lm];omega)
theorem R5(hE:Good E)(hh:h≤4)(hbi:birds≤5){b:Nat}(hb:b<birds){s0:AG}(v0 v1 v2 v7 v8 v11 v12 v13 v14 v15 v16 v17 v18 v21 v22 v23:AV){Q:Ar→Prop}
  (hq:∀s' v F y10 y19 y20,B3 B s' (Dr V p v)→Dc B s0 s'→Yz (birds * h) F.length F 0 v→Pg h birds (b+1) (b+1) 0 1 F→F.length≤30 * (b+1)→Q ⟨.exit 6,[v0,v1,v2,iv (h:Int),iv (birds:Int),AJ p,iv (b:Int),v7,v8,iv (b:Int),y10,v11,v12,v13,v14,v15,v16,v17,v18,y19,y20,v21,v22,v23],[],s'⟩):
  ∀ (m o:Nat) (s:AG) (v:Sv) (F:List (List Int)) (x10 x19 x20:AV),b - o=m→o≤b→B3 B s (Dr V p v)→Dc B s0 s→Yz (birds * h) F.length F 0 v→Pg h birds (b+1) b o 1 F→F.length≤30 * b+1+5 * o →
   WC E none (.loop OJ) Q [v0,v1,v2,iv (h:Int),iv (birds:Int),AJ p,iv (b:Int),v7,v8,iv (o:Int),x10,v11,v12,v13,v14,v15,v16,v17,v18,x19,x20,v21,v22,v23] [] s:=by
 intro m
 induction m with
 | zero =>
  intro o s v F x10 x19 x20 hm ho hS hK hI hP hl
  have hoe:o=b:=by omega
  subst hoe
  refine WC.loop' ?_
  simp only[OJ,XR,lT,decide_false,Qa,Qb,Qc,Qd,Qe,Qf,Qg,Qh,Qi,Qj,Qk,Ql,Qm,Qn,true_and,and_true,Qo,Qp,Qq,Qr,Qs,Qt,Qu,Qv,Qw,Qx,Qy,Qz,Ra,Rb,Rc,Rd,Re,Rf,Rg,Rh,Ri,Rj,Rk,Rl,Rm,Ya,Yb,Yc,Rn,Ro,Rp,Yd,Ye,Rq,Rs,Rt,Ru,Rv,Rw,Rx]
  exact hq s v F _ _ _ hS hK hI hP.bird (by omega)
 | succ m ih =>
  intro o s v F x10 x19 x20 hm ho hS hK hI hP hl
  have hd:decide ((o:Int)<(b:Int))=true:=decide_eq_true (by omega)
  have a3:=Lo (a:=o) (k:=1) (by omega) (by decide)
  have e1:iv ((1:Nat):Int)=iv 1:=rfl
  rw[e1]at a3
  refine WC.loop' ?_
  generalize hW:WC E none (Aa.loop OJ) Q=W at ih ⊢
  simp only[OJ,XR,hd,eJ,Qa,Qb,Qc,Qd,Qe,Qf,Qg,Qh,Qi,Qj,Qk,Ql,Qm,Qn,true_and,and_true,Qo,Qp,Qq,Qr,Qs,Qt,Qu,Qv,Qw,Qx,Qy,Qz,Ra,Rb,Rc,Rd,Re,Rf,Rg,Rh,Ri,Rj,Rk,Rl,Rm,Ya,Yb,Yc,Rn,Ro,Rp,Yd,Ye,Rq,Rs,Rt,Ru,Rv,Rw,Rx]
  refine T8 hE hh hbi (b:=b) (o:=o) (by omega) hb (s0:=s0) _ _ _ _ _ _ _ _ _ _ _ _ _ _ _ _ _ ?_ h 1 s v F _ (by omega) (kp _) (by omega) hS hK hI hP (by omega)
  intro s' v' F' y20 g1 g2 g3 g4 g5
  simp only[if_true,eO,a3,Qa,Qb,Qc,Qd,Qe,Qf,Qg,Qh,Qi,Qj,Qk,Ql,Qm,Qn,true_and,and_true,Qo,Qp,Qq,Qr,Qs,Qt,Qu,Qv,Qw,Qx,Qy,Qz,Ra,Rb,Rc,Rd,Re,Rf,Rg,Rh,Ri,Rj,Rk,Rl,Rm,Ya,Yb,Yc,Rn,Ro,Rp,Yd,Ye,Rq,Rs,Rt,Ru,Rv,Rw,Rx]
  subst hW
  exact ih (o+1) s' v' F' _ _ _ (by omega) (by omega) g1 g2 g3 g4.other (by omega)
end
end
end Go.Proofs.Ytilhhmkdcoajnaa.Am
