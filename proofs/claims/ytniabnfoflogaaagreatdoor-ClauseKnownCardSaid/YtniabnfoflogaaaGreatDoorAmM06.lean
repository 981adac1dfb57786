/- The machine that takes the examples of layer 18 from a table, and the closed law of that layer, run by the kernel; conditions: none. -/
import Derived.Test.YtniabnfoflogaaaGreatDoorAmKTab
import Derived.WideKeyArgs
import Derived.ChangeBears2
import Derived.OpenShut
import GoSem.ClaimJoined
import Derived.ChangeArms
import Derived.DataReads
import Derived.DataElems
import Derived.Test.YtniabnfoflogaaaGreatDoorAmM04
set_option linter.unusedVariables false
namespace Go.Proofs.YtniabnfoflogaaaGreatDoor.Am
open Go Go.Proofs
noncomputable section
theorem I9:Tryz.prog.follows .mixedOrders=true:=by kernel_rfl
theorem Hc:FS Tryz.prog=true:=by kernel_rfl
def Gt:Jw:=Gs [7] LP
theorem IR:CO Tryz.prog Gt:=IQ I9 (FT Hc) rfl I7 fun r hr=>by
 simp only[LP,List.mem_singleton]at hr
 subst hr
 exact⟨rfl,rfl,Kg⟩
def KP:Jw:=fun f xs s=>match Gt f xs s with
 | some p=>some p
 | none=>K7 f xs s
theorem KQ:CO Tryz.prog KP:=by
 intro ρ s w f xs v s1 as' hc hi hf ha
 unfold KP at hc
 cases h:Gt f xs s with
 | some p=>rw[h]at hc;injection hc with hc;subst hc;exact IR ρ s w f xs v s1 as' h hi hf ha
 | none=>rw[h]at hc;exact I7 ρ s w f xs v s1 as' hc hi hf ha
def GA:Kv:=⟨Tryz.prog,KP⟩
end
end Go.Proofs.YtniabnfoflogaaaGreatDoor.Am
set_option linter.unusedVariables false
set_option linter.unusedSimpArgs false
set_option maxRecDepth 16000
namespace Go.Proofs.YtniabnfoflogaaaGreatDoor.Am
open Go Go.Proofs
noncomputable section
theorem LN{H:Type}{enc:TypeId×Value→H}{P:Program}{t:TypeId}(hl:laidOutB P=true)(hr:P.readableRec t=true)(hrow:t<P.types.size){W W':World}{v:Value}{d:DataW H}{ps:List MemPlace}{sp:Nat→Bool}
  (h:DataW.Trod enc P W 0 (fun _=>true) true t v d ps) (hk:Fx W W') (hlt:∀x∈ps,x.block<W.heap.size) (hs:∀x∈ps,sp x.block=true):DataW.Trod enc P W' 0 sp true t v d ps:=
 WideElems.Trod_stays hl hr hrow h (fun x hx=>by
  have:=hlt x hx
  cases x with
  | cell b o=>exact World.cell?_of_block (w:=W) (hk.heap b this)
  | map b=>exact hk.heap b this) hs
end
end Go.Proofs.YtniabnfoflogaaaGreatDoor.Am
set_option linter.unusedVariables false
set_option linter.unusedSimpArgs false
namespace Go.Proofs.YtniabnfoflogaaaGreatDoor.Am
open Go
noncomputable section
def LD:List Code→Code→Code
 | [],z=>z
 | a::l,z=>.seq a (LD l z)
def Dh:Nat→Code→List Code
 | n+1,.seq a b=>a::Dh n b
 | _,_=>[]
def rest:Nat→Code→Code
 | n+1,.seq a b=>rest n b
 | _,c=>c
theorem GQ:∀ (n:Nat)(c:Code),LD (Dh n c) (rest n c)=c
 | 0,_=>rfl
 | n+1,c=>by
  cases c with
  | seq a b=>show Code.seq a (LD (Dh n b) (rest n b))=_;rw[GQ n b]
  | _=>rfl
def G5 (P:Program) (f:FuncId) (nt:Nat) (vars:List Tmp) (F:BN):List Code→Ao→Option Ao
 | [],r=>some r
 | a::l,r=>(F.code none (AJ P f nt vars a) r.var r.marks r.st).bind fun q=>bif Cl q.exit then G5 P f nt vars F l q else none
def Ho:HB→HB→Bool
 | .ro,.ro | .own,.own | .sealed,.sealed=>true
 | _,_=>false
def IY:Option Nat→Option Nat→Bool
 | none,none=>true
 | some a,some b=>Nat.beq a b
 | _,_=>false
def Kh(a b:Bool):Bool:=bif a then b else !b
def K2:List (AV×AV)→List (AV×AV)→Bool
 | [],[]=>true
 | a::l,b::m=>Hx a.1 b.1 && (Hx a.2 b.2 && K2 l m)
 | _,_=>false
def LQ(n:Nat)(c c':AC AV):Bool:=match c.take 0 n,c'.take 0 n with
 | some l,some l'=>Hx.eqAs l l'
 | _,_=>false
def JC:AZ→AZ→Bool
 | .row q,.row r=>Nat.beq q.elem r.elem && (Nat.beq q.sz r.sz && (Nat.beq q.n r.n && (Kh q.spare r.spare && (Ho q.mode r.mode && (IY q.par r.par && (Kh q.bytes r.bytes && (IY q.glob r.glob && LQ r.n q.c r.c)))))))
 | .map kt es,.map kt' es'=>Nat.beq kt kt' && K2 es es'
 | _,_=>false
def FF:List (Nat×AZ)→AC AZ
 | []=>.leaf
 | p::l=>(FF l).set p.1 p.2
structure Jr where
 lst:List (Nat×AZ)
 nx:Nat
 var:List AV
def Jr.st(C:Jr):AM:=⟨C.nx,FF C.lst⟩
def Lq(l:List (Nat×AZ))(nx:Nat)(h:AC AZ):Bool:=l.all fun p=>Nat.blt p.1 nx && (match h.get p.1 with | some o=>JC p.2 o | none=>false)
def I8:List Nat→Bool
 | []=>true
 | _=>false
def CY(r:Option Ao)(C:Jr):Bool:=match r with
 | some q=>Cl q.exit && (I8 q.marks && (JP q.var C.var && (Nat.ble q.st.next C.nx && Lq C.lst C.nx q.st.heap)))
 | none=>false
def LT(n:Nat):Jr:=⟨[],0,Ql [] n⟩
def E8 (P:Program) (cr:List (CX×Option TypeId)) (r:Option Ao):Bool:=match r with
 | some q=>I0 q.exit && (I8 q.marks && (match BL P q.st q.var cr with | some [.bool b]=>b | _=>false))
 | none=>false
theorem FG:∀ {l:List (Nat×AZ)}{i:Nat}{o:AZ},(FF l).get i=some o→(i,o)∈l
 | [],i,o,h=>by cases h
 | p::l,i,o,h=>by
  unfold FF at h
  rw[AC.get_set]at h
  split at h
  ·rename_i e
   injection h with h
   subst e;subst h
   exact MG
  ·exact MJ _ (FG h)
theorem GP:∀ {a b:Option Nat},IY a b=true→a=b
 | none,none,_=>rfl
 | some a,some b,h=>by rw[MA h]
theorem Hn{a b:Bool}(h:Kh a b=true):a=b:=by cases a<;>cases b<;>first | rfl | cases h
theorem Hp{a b:HB}(h:Ho a b=true):a=b:=by cases a<;>cases b<;>first | rfl | cases h
theorem Iw:∀ {a b:List (AV×AV)},K2 a b=true→a=b
 | [],[],_=>rfl
 | (a1,a2)::l,(b1,b2)::m,h=>by
  simp only[K2,Bool.and_eq_true]at h
  rw[DF h.1,DF h.2.1,Iw h.2.2]
 | [],_::_,h=>by cases h
 | _::_,[],h=>by cases h
section
variable{P:Program}{ρ ρ1 ρ2:AX}{s s1 s2:AM}{w w1 w2:World}
theorem Ct{o o':AZ}(h:JC o o'=true):wr o=wr o'∧Ee o=Ee o'∧Br o=Br o'∧∀ {ρ:AX}{w:World}{rb:RB},Bk P ρ w o' rb→Bk P ρ w o rb:=by
 unfold JC at h
 split at h
 ·rename_i q r
  simp only[Bool.and_eq_true]at h
  obtain⟨h1,h2,h3,h4,h5,h6,h7,h8,h9⟩:=h
  have e1:=MA h1
  have e2:=MA h2
  have e3:=MA h3
  have e4:=Hn h4
  have e5:=Hp h5
  have e6:=GP h6
  have e7:=Hn h7
  have e8:=GP h8
  obtain⟨qe,qs,qn,qc,qsp,qm,qp,qb,qg⟩:=q
  obtain⟨re,rs,rn,rc,rsp,rm,rp,rb,rg⟩:=r
  simp only at e1 e2 e3 e4 e5 e6 e7 e8 h9
  subst e1;subst e2;subst e3;subst e4;subst e5;subst e6;subst e7;subst e8
  refine⟨rfl,rfl,rfl,fun {ρ w x} hok=>?_⟩
  have hok:Ap ρ w ⟨qe,qs,qn,rc,qsp,qm,qp,qb,qg⟩ x:=hok
  have hc:∀k,k<qn→qc.get k=rc.get k:=by
   unfold LQ at h9
   split at h9<;>first | (cases h9;done) | skip
   rename_i l l' hl hl'
   have:=CQ h9
   subst this
   intro k hk
   have a1:=AC.take_get hl k hk
   have a2:=AC.take_get hl' k hk
   simp only[MH]at a1 a2
   rw[a1,a2]
  exact(show Ap ρ w ⟨qe,qs,qn,qc,qsp,qm,qp,qb,qg⟩ x from
   ⟨fun k v hk hv=>hok.cells k v hk (by rw[← hc k hk];exact hv),hok.le,hok.sz,hok.tight,hok.own,hok.base,hok.gl,hok.par⟩)
 ·rename_i kt es kt' es'
  simp only[Bool.and_eq_true]at h
  have e1:=MA h.1
  have e2:=Iw h.2
  subst e1;subst e2
  exact⟨rfl,rfl,rfl,fun h=>h⟩
 ·cases h
theorem Kn{l:List (Nat×AZ)}{nx:Nat}{h:AC AZ}(hs:Lq l nx h=true){i:Nat}{o:AZ}(hg:(FF l).get i=some o):i<nx∧∃o',h.get i=some o'∧JC o o'=true:=by
 have:=List.all_eq_true.1 hs (i,o) (FG hg)
 simp only[Bool.and_eq_true]at this
 refine⟨Nat.le_of_ble_eq_true this.1,?_⟩
 have h2:=this.2
 split at h2
 ·rename_i o' ho;exact⟨o',ho,h2⟩
 ·cases h2
def At(P:Program)(fn:Func)(w0:World)(C:Jr)(a:Act)(w:World):Prop:=
 ∃ρ,CN P fn ρ C.st w C.var [] none none a∧Fr Jj Lc w0 ρ C.st w
theorem At.of_came{fn:Func}{w0:World}{C:Jr}{q:Ao}{a:Act}(hi:AT P ρ q.st w)(hf:AR ρ q.st)(hr:Fr Jj Lc w0 ρ q.st w)(hv:AP P ρ fn q.var a.tmps)(hm:Aa ρ q.marks a.defers)(h:CY (some q) C=true):At P fn w0 C a w:=by
  unfold CY at h
  simp only[Bool.and_eq_true]at h
  obtain⟨h1,h2,h3,h4,h5⟩:=h
  have hmk:q.marks=[]:=by cases hm:q.marks with | nil=>rfl | cons=>rw[hm]at h2;cases h2
  have hle:q.st.next≤C.nx:=Nat.le_of_ble_eq_true h4
  have sub:=fun(i:Nat) (o:AZ) (hg:C.st.heap.get i=some o)=>Kn h5 hg
  have hcov:=E7 h3
  refine⟨ρ,⟨⟨fun i o rb hg hρ=>?_,hi.lt,fun i j oi oj ri rj hne hgi hgj hri hrj hb hw=>?_,fun i o g hg hgl=>?_⟩,fun i hi'=>?_,⟨?_,fun t k hk=>?_,hv.size⟩,by rw[hmk]at hm;exact hm,rfl⟩,?_⟩
  · obtain⟨_,o',g1,g2⟩:=sub i o hg
    exact(Ct g2).2.2.2 (hi.obj i o' rb g1 hρ)
  · obtain ⟨_, oi', g1, g2⟩ := sub i oi hgi
    obtain⟨_,oj',k1,k2⟩:=sub j oj hgj
    obtain⟨a1,a2,_⟩:=Ct (P:=P) g2
    obtain⟨b1,b2,_⟩:=Ct (P:=P) k2
    rw[b1]at hw
    rw[a1,b2]
    exact hi.sep i j oi' oj' ri rj hne g1 k1 hri hrj hb hw
  · obtain⟨_,o',g1,g2⟩:=sub i o hg
    rw[(Ct (P:=P) g2).2.2.1]at hgl
    exact hi.glb i o' g g1 hgl
  · have hi':C.nx≤i:=hi'
    refine⟨(hf i (MF hle hi')).1,?_⟩
    cases hg:C.st.heap.get i with
    | none=>rfl
    | some o=>have:=(sub i o hg).1;omega
  · rw[← hcov.1];exact hv.len
  · obtain⟨g1,x,g2,g3⟩:=hv.rel t k hk
    refine⟨g1,?_⟩
    rcases hcov.2 k x g2 with e | ⟨e1,e2⟩
    · exact⟨x,e,g3⟩
    · exact⟨_,e2,.any (Dy e1 g3)⟩
  · refine ⟨hr.le, fun i _ hor => ?_, MK          _, hr.size, hr.os, hr.tape, hr.output, hr.keep, fun b hb => ?_, fun i _ hor => ?_⟩
    · have hor:i<0∨C.nx≤i:=hor
      exact(hf i (by omega)).1
    · obtain ⟨i, o, rb, k1, k2, k3, k4⟩ := hb
      obtain⟨_,o',g1,g2⟩:=sub i o k1
      exact hr.own b ⟨i,o',rb,g1,by rw[← (Ct (P:=P) g2).1];exact k2,k3,k4⟩
    · have hor:i<0∨C.nx≤i:=hor
      cases hg:C.st.heap.get i with
      | none=>rfl
      | some o=>have:=(sub i o hg).1;omega
theorem LC{F:BN}(hcode:B4 P F){f:FuncId}{fn:Func}(hf:P.funcs[f]? = some fn){z:Code}{Q:Exit→Act→World→Prop}:
  ∀ {l:List Code} {r q:Ao} {ρ:AX} {w:World} {a:Act},G5 P f fn.ntmps (AH P fn) F l r=some q→CN P fn ρ r.st w r.var r.marks none none a →
   (∀a' w' ρ',Cf P fn ρ r.st w q a' w' ρ'→z.wpIn (Ce none) 0 P Q a' w')→(LD l z).wpIn (Ce none) 0 P Q a w:=by
 intro l
 induction l with
 | nil =>
  intro r q ρ w a h hb hq
  injection h with h
  subst h
  exact hq a w ρ ⟨hb.inv,hb.fresh,Fr.refl _ _ _,hb.vars,hb.marks⟩
 | cons c l ih =>
  intro r q ρ w a h hb hq
  unfold G5 at h
  simp only[L7]at h
  obtain⟨r1,h1,h2⟩:=h
  cases hn:Cl r1.exit with
  | false=>rw[hn]at h2;cases h2
  | true =>
   rw[hn]at h2
   have he:r1.exit=.normal:=by cases he:r1.exit<;>rw[he]at hn<;>first | rfl | cases hn
   refine wpIn_seq (hcode f fn c none none _ _ _ r1 ρ w a _ hf h1 hb ?_)
   intro a' w' ρ' g
   rw[he]
   refine ih h2 (g.begins hb) ?_
   intro a2 w2 ρ2 g2
   exact hq a2 w2 ρ2 (Cf.trans (r1:=r1) (a1:=a') g.fr g2)
theorem Df{F:BN}(hcode:B4 P F){f:FuncId}{fn:Func}(hf:P.funcs[f]? = some fn){c:Code}{n:Nat}{Q:Exit→Act→World→Prop}{C C':Jr}{w0 w:World}{a:Act}
  (h:CY (G5 P f fn.ntmps (AH P fn) F (Dh n c) ⟨.normal,C.var,[],C.st⟩) C'=true) (hat:At P fn w0 C a w) (hq:∀a' w',At P fn w0 C' a' w'→(rest n c).wpIn (Ce none) 0 P Q a' w'):c.wpIn (Ce none) 0 P Q a w:=by
 cases hr:G5 P f fn.ntmps (AH P fn) F (Dh n c) ⟨.normal,C.var,[],C.st⟩with
 | none=>rw[hr]at h;cases h
 | some q =>
  rw[hr]at h
  obtain⟨ρ,hb,hfr⟩:=hat
  rw[← GQ n c]
  refine LC hcode hf hr hb ?_
  intro a' w' ρ' g
  exact hq a' w' (.of_came g.inv g.fresh (hfr.trans g.fr) g.vars g.marks h)
theorem J7{f:FuncId}{fn:Func}{c:Code}(hf:P.funcs[f]? = some fn)(hbody:fn.body=some c)(hn:A8 fn=0){w:World}{R:Ending→World→Prop}
  (h:∀a,At P fn w (LT (AH P fn).length) a w→c.wpIn (Ce none) 0 P (bodyPostM (Ce none) 0 P fn R) a w):CallsIn Fence.wide 0 P f #[] w R:=by
 refine callsIn_of_wp_marks hf hbody trivial (h _ ⟨Jj,⟨Lw P w,LX,?_,?_,rfl⟩,Fr.refl _ _ _⟩)
 ·exact JH (aS:=[]) .nil hn.symm (by omega)
 ·rfl
theorem J8{F:BN}(hcode:B4 P F){f:FuncId}{fn:Func}(hf:P.funcs[f]? = some fn){c:Code}{cr:List (CX×Option TypeId)}(hcr:Ar (AH P fn) fn.results.toList=some cr){C:Jr}{w0 w:World}{a:Act}
  (h:E8 P cr (F.code none (AJ P f fn.ntmps (AH P fn) c) C.var [] C.st)=true) (hat:At P fn w0 C a w):c.wpIn (Ce none) 0 P (bodyPostM (Ce none) 0 P fn fun(e:Ending) w'=>e=.returned (.bool true)∧Fx w0 w') a w:=by
 obtain⟨ρ,hb,hfr⟩:=hat
 cases hr:F.code none (AJ P f fn.ntmps (AH P fn) c) C.var [] C.st with
 | none=>rw[hr]at h;cases h
 | some q =>
  rw[hr]at h
  unfold E8 at h
  simp only[Bool.and_eq_true]at h
  obtain⟨h1,h2,h3⟩:=h
  have hmk:q.marks=[]:=by cases hm:q.marks with | nil=>rfl | cons=>rw[hm]at h2;cases h2
  split at h3<;>first | (cases h3;done) | skip
  rename_i b hl
  subst h3
  refine hcode f fn c none none _ _ _ q ρ w a _ hf hr hb ?_
  intro a' w' ρ' g
  have hlv:LeavesInM Fence.wide 0 P fn a'.tmps (fun(e:Ending) w'=>e=.returned (.bool true)∧Fx w0 w') a'.defers .returning w':=by
   refine Dl g.marks (by rw[hmk];rfl) g.inv fun w2 k1 k2=>?_
   obtain⟨v',k3,k4⟩:=Ff k1 g.vars.rel hcr hl
   refine⟨v',k3,?_⟩
   cases k4
   exact⟨rfl,K4 (hfr.trans (g.fr.trans k2)) Jg⟩
  cases hx:q.exit with
  | normal=>exact hlv
  | ret=>exact hlv
  | exit id=>rw[hx]at h1;cases h1
end
end
end Go.Proofs.YtniabnfoflogaaaGreatDoor.Am
