/- The machine that takes the examples of layer 15 from a table; conditions: none. -/
import Derived.Test.YtdmgdlbodeemeaaGreatDoorAmGTab
import Derived.WideKeyArgs
import Derived.ChangeBears2
import Derived.OpenShut
import GoSem.ClaimJoined
import Derived.ChangeArms
import Derived.DataReads
import Derived.DataElems
import Derived.Test.YtdmgdlbodeemeaaGreatDoorAmM04
import Derived.Test.YtdmgdlbodeemeaaGreatDoorAmM05
set_option linter.unusedVariables false
namespace Go.Proofs.YtdmgdlbodeemeaaGreatDoor.Am
open Go Go.Proofs
noncomputable section
def SK:Gh:=Mk [5] bo
theorem Px:B0 Tryz.prog SK:=Pw JD (FI HU) rfl Nz fun r hr=>by
 simp only[bo,List.mem_singleton]at hr
 subst hr
 exact⟨rfl,rfl,YY⟩
def bX:Gh:=YD SK X1
theorem X2:B0 Tryz.prog bX:=FK Px Nz
def R7:Cf:=⟨Tryz.prog,bX⟩
end
end Go.Proofs.YtdmgdlbodeemeaaGreatDoor.Am
set_option linter.unusedVariables false
set_option linter.unusedSimpArgs false
set_option maxRecDepth 16000
namespace Go.Proofs.YtdmgdlbodeemeaaGreatDoor.Am
open Go Go.Proofs
noncomputable section
theorem bk{H:Type}{enc:TypeId×Value→H}{P:Program}{t:TypeId}(hl:laidOutB P=true)(hr:P.readableRec t=true)(hrow:t<P.types.size){W W':World}{v:Value}{d:DataW H}{ps:List MemPlace}{sp:Nat→Bool}
  (h:DataW.Trod enc P W 0 (fun _=>true) true t v d ps) (hk:Kp W W') (hlt:∀x∈ps,x.block<W.heap.size) (hs:∀x∈ps,sp x.block=true):DataW.Trod enc P W' 0 sp true t v d ps:=
 WideElems.Trod_stays hl hr hrow h (fun x hx=>by
  have:=hlt x hx
  cases x with
  | cell b o=>exact World.cell?_of_block (w:=W) (hk.heap b this)
  | map b=>exact hk.heap b this) hs
end
end Go.Proofs.YtdmgdlbodeemeaaGreatDoor.Am
set_option linter.unusedVariables false
set_option linter.unusedSimpArgs false
namespace Go.Proofs.YtdmgdlbodeemeaaGreatDoor.Am
open Go
noncomputable section
def aq:List Code→Code→Code
 | [],z=>z
 | a::l,z=>.seq a (aq l z)
def Jt:Nat→Code→List Code
 | n+1,.seq a b=>a::Jt n b
 | _,_=>[]
def rest:Nat→Code→Code
 | n+1,.seq a b=>rest n b
 | _,c=>c
theorem Le:∀ (n:Nat)(c:Code),aq (Jt n c) (rest n c)=c
 | 0,_=>rfl
 | n+1,c=>by
  cases c with
  | seq a b=>show Code.seq a (aq (Jt n b) (rest n b))=_;rw[Le n b]
  | _=>rfl
def P6 (P:Program) (f:FuncId) (nt:Nat) (vars:List Tmp) (F:Cg):List Code→Aq→Option Aq
 | [],r=>some r
 | a::l,r=>(F.code none (AX P f nt vars a) r.var r.marks r.st).bind fun q=>bif D5 q.exit then P6 P f nt vars F l q else none
def OM:ND→ND→Bool
 | .ro,.ro | .own,.own | .sealed,.sealed=>true
 | _,_=>false
def P8:Option Nat→Option Nat→Bool
 | none,none=>true
 | some a,some b=>Nat.beq a b
 | _,_=>false
def YZ(a b:Bool):Bool:=bif a then b else !b
def Z6:List (AV×AV)→List (AV×AV)→Bool
 | [],[]=>true
 | a::l,b::m=>Ep a.1 b.1 && (Ep a.2 b.2 && Z6 l m)
 | _,_=>false
def bp(n:Nat)(c c':AH AV):Bool:=match c.take 0 n,c'.take 0 n with
 | some l,some l'=>Ep.eqAs l l'
 | _,_=>false
def SS:Af→Af→Bool
 | .row q,.row r=>Nat.beq q.elem r.elem && (Nat.beq q.sz r.sz && (Nat.beq q.n r.n && (YZ q.spare r.spare && (OM q.mode r.mode && (P8 q.par r.par && (YZ q.bytes r.bytes && (P8 q.glob r.glob && bp r.n q.c r.c)))))))
 | .map kt es,.map kt' es'=>Nat.beq kt kt' && Z6 es es'
 | _,_=>false
def Ju:List (Nat×Af)→AH Af
 | []=>.leaf
 | p::l=>(Ju l).set p.1 p.2
structure Y5 where
 lst:List (Nat×Af)
 nx:Nat
 var:List AV
def Y5.st(C:Y5):AD:=⟨C.nx,Ju C.lst⟩
def ee(l:List (Nat×Af))(nx:Nat)(h:AH Af):Bool:=l.all fun p=>Nat.blt p.1 nx && (match h.get p.1 with | some o=>SS p.2 o | none=>false)
def SL:List Nat→Bool
 | []=>true
 | _=>false
def Hc(r:Option Aq)(C:Y5):Bool:=match r with
 | some q=>D5 q.exit && (SL q.marks && (XC q.var C.var && (Nat.ble q.st.next C.nx && ee C.lst C.nx q.st.heap)))
 | none=>false
def cO(n:Nat):Y5:=⟨[],0,Ql [] n⟩
def Jk (P:Program) (cr:List (CX×Option TypeId)) (r:Option Aq):Bool:=match r with
 | some q=>Nl q.exit && (SL q.marks && (match BS P q.st q.var cr with | some [.bool b]=>b | _=>false))
 | none=>false
theorem Jv:∀ {l:List (Nat×Af)}{i:Nat}{o:Af},(Ju l).get i=some o→(i,o)∈l
 | [],i,o,h=>by cases h
 | p::l,i,o,h=>by
  unfold Ju at h
  rw[AH.get_set]at h
  split at h
  ·rename_i e
   injection h with h
   subst e;subst h
   exact fc
  ·exact fh _ (Jv h)
theorem La:∀ {a b:Option Nat},P8 a b=true→a=b
 | none,none,_=>rfl
 | some a,some b,h=>by rw[fW h]
theorem OL{a b:Bool}(h:YZ a b=true):a=b:=by cases a<;>cases b<;>first | rfl | cases h
theorem ON{a b:ND}(h:OM a b=true):a=b:=by cases a<;>cases b<;>first | rfl | cases h
theorem R9:∀ {a b:List (AV×AV)},Z6 a b=true→a=b
 | [],[],_=>rfl
 | (a1,a2)::l,(b1,b2)::m,h=>by
  simp only[Z6,Bool.and_eq_true]at h
  rw[E7 h.1,E7 h.2.1,R9 h.2.2]
 | [],_::_,h=>by cases h
 | _::_,[],h=>by cases h
section
variable{P:Program}{ρ ρ1 ρ2:A5}{s s1 s2:AD}{w w1 w2:World}
theorem Fy{o o':Af}(h:SS o o'=true):wr o=wr o'∧FS o=FS o'∧Da o=Da o'∧∀ {ρ:A5}{w:World}{rb:RB},Cv P ρ w o' rb→Cv P ρ w o rb:=by
 unfold SS at h
 split at h
 ·rename_i q r
  simp only[Bool.and_eq_true]at h
  obtain⟨h1,h2,h3,h4,h5,h6,h7,h8,h9⟩:=h
  have e1:=fW h1
  have e2:=fW h2
  have e3:=fW h3
  have e4:=OL h4
  have e5:=ON h5
  have e6:=La h6
  have e7:=OL h7
  have e8:=La h8
  obtain⟨qe,qs,qn,qc,qsp,qm,qp,qb,qg⟩:=q
  obtain⟨re,rs,rn,rc,rsp,rm,rp,rb,rg⟩:=r
  simp only at e1 e2 e3 e4 e5 e6 e7 e8 h9
  subst e1;subst e2;subst e3;subst e4;subst e5;subst e6;subst e7;subst e8
  refine⟨rfl,rfl,rfl,fun {ρ w x} hok=>?_⟩
  have hok:BF ρ w ⟨qe,qs,qn,rc,qsp,qm,qp,qb,qg⟩ x:=hok
  have hc:∀k,k<qn→qc.get k=rc.get k:=by
   unfold bp at h9
   split at h9<;>first | (cases h9;done) | skip
   rename_i l l' hl hl'
   have:=E8 h9
   subst this
   intro k hk
   have a1:=AH.take_get hl k hk
   have a2:=AH.take_get hl' k hk
   simp only[fY]at a1 a2
   rw[a1,a2]
  exact(show BF ρ w ⟨qe,qs,qn,qc,qsp,qm,qp,qb,qg⟩ x from
   ⟨fun k v hk hv=>hok.cells k v hk (by rw[← hc k hk];exact hv),hok.le,hok.sz,hok.tight,hok.own,hok.base,hok.gl,hok.par⟩)
 ·rename_i kt es kt' es'
  simp only[Bool.and_eq_true]at h
  have e1:=fW h.1
  have e2:=R9 h.2
  subst e1;subst e2
  exact⟨rfl,rfl,rfl,fun h=>h⟩
 ·cases h
theorem Ym{l:List (Nat×Af)}{nx:Nat}{h:AH Af}(hs:ee l nx h=true){i:Nat}{o:Af}(hg:(Ju l).get i=some o):i<nx∧∃o',h.get i=some o'∧SS o o'=true:=by
 have:=List.all_eq_true.1 hs (i,o) (Jv hg)
 simp only[Bool.and_eq_true]at this
 refine⟨Nat.le_of_ble_eq_true this.1,?_⟩
 have h2:=this.2
 split at h2
 ·rename_i o' ho;exact⟨o',ho,h2⟩
 ·cases h2
def At(P:Program)(fn:Func)(w0:World)(C:Y5)(a:Act)(w:World):Prop:=
 ∃ρ,Eu P fn ρ C.st w C.var [] none none a∧Fr TN dK w0 ρ C.st w
theorem At.of_came{fn:Func}{w0:World}{C:Y5}{q:Aq}{a:Act}(hi:Aw P ρ q.st w)(hf:Ag ρ q.st)(hr:Fr TN dK w0 ρ q.st w)(hv:Ai P ρ fn q.var a.tmps)(hm:BL ρ q.marks a.defers)(h:Hc (some q) C=true):At P fn w0 C a w:=by
  unfold Hc at h
  simp only[Bool.and_eq_true]at h
  obtain⟨h1,h2,h3,h4,h5⟩:=h
  have hmk:q.marks=[]:=by cases hm:q.marks with | nil=>rfl | cons=>rw[hm]at h2;cases h2
  have hle:q.st.next≤C.nx:=Nat.le_of_ble_eq_true h4
  have sub:=fun(i:Nat) (o:Af) (hg:C.st.heap.get i=some o)=>Ym h5 hg
  have hcov:=HF h3
  refine⟨ρ,⟨⟨fun i o rb hg hρ=>?_,hi.lt,fun i j oi oj ri rj hne hgi hgj hri hrj hb hw=>?_,fun i o g hg hgl=>?_⟩,fun i hi'=>?_,⟨?_,fun t k hk=>?_,hv.size⟩,by rw[hmk]at hm;exact hm,rfl⟩,?_⟩
  · obtain⟨_,o',g1,g2⟩:=sub i o hg
    exact(Fy g2).2.2.2 (hi.obj i o' rb g1 hρ)
  · obtain ⟨_, oi', g1, g2⟩ := sub i oi hgi
    obtain⟨_,oj',k1,k2⟩:=sub j oj hgj
    obtain⟨a1,a2,_⟩:=Fy (P:=P) g2
    obtain⟨b1,b2,_⟩:=Fy (P:=P) k2
    rw[b1]at hw
    rw[a1,b2]
    exact hi.sep i j oi' oj' ri rj hne g1 k1 hri hrj hb hw
  · obtain⟨_,o',g1,g2⟩:=sub i o hg
    rw[(Fy (P:=P) g2).2.2.1]at hgl
    exact hi.glb i o' g g1 hgl
  · have hi':C.nx≤i:=hi'
    refine⟨(hf i (fU hle hi')).1,?_⟩
    cases hg:C.st.heap.get i with
    | none=>rfl
    | some o=>have:=(sub i o hg).1;omega
  · rw[← hcov.1];exact hv.len
  · obtain⟨g1,x,g2,g3⟩:=hv.rel t k hk
    refine⟨g1,?_⟩
    rcases hcov.2 k x g2 with e | ⟨e1,e2⟩
    · exact⟨x,e,g3⟩
    · exact⟨_,e2,.any (C5 e1 g3)⟩
  · refine ⟨hr.le, fun i _ hor => ?_, fa          _, hr.size, hr.os, hr.tape, hr.output, hr.keep, fun b hb => ?_, fun i _ hor => ?_⟩
    · have hor:i<0∨C.nx≤i:=hor
      exact(hf i (by omega)).1
    · obtain ⟨i, o, rb, k1, k2, k3, k4⟩ := hb
      obtain⟨_,o',g1,g2⟩:=sub i o k1
      exact hr.own b ⟨i,o',rb,g1,by rw[← (Fy (P:=P) g2).1];exact k2,k3,k4⟩
    · have hor:i<0∨C.nx≤i:=hor
      cases hg:C.st.heap.get i with
      | none=>rfl
      | some o=>have:=(sub i o hg).1;omega
theorem ao{F:Cg}(hcode:EM P F){f:FuncId}{fn:Func}(hf:P.funcs[f]? = some fn){z:Code}{Q:Exit→Act→World→Prop}:
  ∀ {l:List Code} {r q:Aq} {ρ:A5} {w:World} {a:Act},P6 P f fn.ntmps (AT P fn) F l r=some q→Eu P fn ρ r.st w r.var r.marks none none a →
   (∀a' w' ρ',FW P fn ρ r.st w q a' w' ρ'→z.wpIn (FU none) 0 P Q a' w')→(aq l z).wpIn (FU none) 0 P Q a w:=by
 intro l
 induction l with
 | nil =>
  intro r q ρ w a h hb hq
  injection h with h
  subst h
  exact hq a w ρ ⟨hb.inv,hb.fresh,Fr.refl _ _ _,hb.vars,hb.marks⟩
 | cons c l ih =>
  intro r q ρ w a h hb hq
  unfold P6 at h
  simp only[fQ]at h
  obtain⟨r1,h1,h2⟩:=h
  cases hn:D5 r1.exit with
  | false=>rw[hn]at h2;cases h2
  | true =>
   rw[hn]at h2
   have he:r1.exit=.normal:=by cases he:r1.exit<;>rw[he]at hn<;>first | rfl | cases hn
   refine wpIn_seq (hcode f fn c none none _ _ _ r1 ρ w a _ hf h1 hb ?_)
   intro a' w' ρ' g
   rw[he]
   refine ih h2 (g.begins hb) ?_
   intro a2 w2 ρ2 g2
   exact hq a2 w2 ρ2 (FW.trans (r1:=r1) (a1:=a') g.fr g2)
theorem Na{F:Cg}(hcode:EM P F){f:FuncId}{fn:Func}(hf:P.funcs[f]? = some fn){c:Code}{n:Nat}{Q:Exit→Act→World→Prop}{C C':Y5}{w0 w:World}{a:Act}
  (h:Hc (P6 P f fn.ntmps (AT P fn) F (Jt n c) ⟨.normal,C.var,[],C.st⟩) C'=true) (hat:At P fn w0 C a w) (hq:∀a' w',At P fn w0 C' a' w'→(rest n c).wpIn (FU none) 0 P Q a' w'):c.wpIn (FU none) 0 P Q a w:=by
 cases hr:P6 P f fn.ntmps (AT P fn) F (Jt n c) ⟨.normal,C.var,[],C.st⟩with
 | none=>rw[hr]at h;cases h
 | some q =>
  rw[hr]at h
  obtain⟨ρ,hb,hfr⟩:=hat
  rw[← Le n c]
  refine ao hcode hf hr hb ?_
  intro a' w' ρ' g
  exact hq a' w' (.of_came g.inv g.fresh (hfr.trans g.fr) g.vars g.marks h)
theorem XD{f:FuncId}{fn:Func}{c:Code}(hf:P.funcs[f]? = some fn)(hbody:fn.body=some c)(hn:CT fn=0){w:World}{R:Ending→World→Prop}
  (h:∀a,At P fn w (cO (AT P fn).length) a w→c.wpIn (FU none) 0 P (bodyPostM (FU none) 0 P fn R) a w):CallsIn Fence.wide 0 P f #[] w R:=by
 refine callsIn_of_wp_marks hf hbody trivial (h _ ⟨TN,⟨fB P w,cT,?_,?_,rfl⟩,Fr.refl _ _ _⟩)
 ·exact Sd (aS:=[]) .nil hn.symm (by omega)
 ·rfl
theorem XE{F:Cg}(hcode:EM P F){f:FuncId}{fn:Func}(hf:P.funcs[f]? = some fn){c:Code}{cr:List (CX×Option TypeId)}(hcr:B4 (AT P fn) fn.results.toList=some cr){C:Y5}{w0 w:World}{a:Act}
  (h:Jk P cr (F.code none (AX P f fn.ntmps (AT P fn) c) C.var [] C.st)=true) (hat:At P fn w0 C a w):c.wpIn (FU none) 0 P (bodyPostM (FU none) 0 P fn fun(e:Ending) w'=>e=.returned (.bool true)∧Kp w0 w') a w:=by
 obtain⟨ρ,hb,hfr⟩:=hat
 cases hr:F.code none (AX P f fn.ntmps (AT P fn) c) C.var [] C.st with
 | none=>rw[hr]at h;cases h
 | some q =>
  rw[hr]at h
  unfold Jk at h
  simp only[Bool.and_eq_true]at h
  obtain⟨h1,h2,h3⟩:=h
  have hmk:q.marks=[]:=by cases hm:q.marks with | nil=>rfl | cons=>rw[hm]at h2;cases h2
  split at h3<;>first | (cases h3;done) | skip
  rename_i b hl
  subst h3
  refine hcode f fn c none none _ _ _ q ρ w a _ hf hr hb ?_
  intro a' w' ρ' g
  have hlv:LeavesInM Fence.wide 0 P fn a'.tmps (fun(e:Ending) w'=>e=.returned (.bool true)∧Kp w0 w') a'.defers .returning w':=by
   refine HR g.marks (by rw[hmk];rfl) g.inv fun w2 k1 k2=>?_
   obtain⟨v',k3,k4⟩:=KU k1 g.vars.rel hcr hl
   refine⟨v',k3,?_⟩
   cases k4
   exact⟨rfl,aG (hfr.trans (g.fr.trans k2)) TG⟩
  cases hx:q.exit with
  | normal=>exact hlv
  | ret=>exact hlv
  | exit id=>rw[hx]at h1;cases h1
end
end
end Go.Proofs.YtdmgdlbodeemeaaGreatDoor.Am
