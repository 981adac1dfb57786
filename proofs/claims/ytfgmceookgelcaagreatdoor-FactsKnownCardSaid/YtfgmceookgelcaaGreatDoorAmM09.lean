/- strings.TrimLeft by one sign, and strconv.Itoa of small numbers, that the abstract machine runs by itself; conditions: none. -/
import Derived.Test.YtfgmceookgelcaaGreatDoorAmM04
import Derived.Test.YtfgmceookgelcaaGreatDoorAmM08
set_option linter.unusedVariables false
set_option linter.unusedSimpArgs false
namespace Go.Proofs.YtfgmceookgelcaaGreatDoor.Am
open Go Go.Proofs Go.RowKit
noncomputable section
def IY(c:Nat):List Nat→List Nat
 | []=>[]
 | x::l=>bif Nat.beq x c then IY c l else x::l
theorem LC(c:UInt8):∀l:List UInt8,IY c.toNat (l.map fun(x:UInt8)=>x.toNat)=(Go.Lib.trimLeftB l c).map fun(x:UInt8)=>x.toNat
  | []=>rfl
  | x::l=>by
    unfold Go.Lib.trimLeftB
    rw[gN,List.dropWhile_cons]
    unfold IY
    by_cases h:x=c
    · subst h
      simp only[beq_self_eq_true,if_true]
      rw[show Nat.beq x.toNat x.toNat=true from by simp,cond_true]
      exact LC x l
    · have h1 : (x == c) = false := by simpa using h
      have h2:Nat.beq x.toNat c.toNat=false:=Dq fun e=>h (UInt8.toNat_inj.1 e)
      rw[h1,h2]
      simp
def ND(s:AE):List AV→Option (AV×AE)
 | [.str l,.str [c]]=>AH (Nat.blt c 128) (some (.str (IY c l),s))
 | _=>none
def P2(n:Nat):List Nat:=bif Nat.blt n 10 then [48+n]else [48+n / 10,48+n % 10]
theorem TJ(n:Nat)(h:n<100):P2 n=(Go.Lib.decDigits n).map fun(x:UInt8)=>x.toNat:=by
 have e:∀k,k<10→(UInt8.ofNat (48+k)).toNat=48+k:=fun k hk=>by
  show(48+k) % 256=48+k
  omega
 unfold P2
 by_cases h1:n<10
 ·rw[Go.Lib.decDigits_one h1,show Nat.blt n 10=true from by simpa[gE]using h1,cond_true]
  simp only[gN,List.map_nil,e n h1]
 ·rw[Go.Lib.decDigits_two h1 h,show Nat.blt n 10=false from by cases hb:Nat.blt n 10 with | false=>rfl | true=>exact absurd (by simpa[gE]using hb) h1,cond_false]
  simp only[gN,List.map_nil,e (n / 10) (by omega),e (n % 10) (by omega)]
def P1(s:AE):List AV→Option (AV×AE)
 | [.int .i64 (.ofNat n)]=>AH (Nat.blt n 100) (some (.str (P2 n),s))
 | _=>none
section
variable{ρ:A4}{s s1:AE}{w:World}
theorem Lm(h:Av Tryz.prog ρ s w){ys:List AV}{as':Array Value}{v:AV}(hs:ND s ys=some (v,s1))(has:AK ρ ys as'.toList):CallsIn Fence.wide 0 Tryz.prog 265 as' w (CU Tryz.prog ρ s w v s1):=by
 refine callsIn_wide.2 ?_
 unfold ND at hs
 split at hs<;>first | (cases hs;done) | skip
 rename_i l c
 obtain⟨hg,hs⟩:=AA hs
 injection hs with hs
 injection hs with q1 q2
 subst q1;subst q2
 obtain⟨l0⟩:=as'
 cases has with
 | cons h1 h2 =>
 cases h2 with
 | cons h2 h3 =>
 cases h3
 cases h1 with
 | str h1 =>
 cases h2 with
 | str h2 =>
 rename_i b1 b2
 obtain⟨⟨c8⟩⟩:=b2
 have hc8:c8.length=1:=by have:=congrArg List.length h2;simpa using this
 match c8,hc8 with
 | [x],_ =>
 have hx:x.toNat=c:=by simpa using h2
 subst hx
 refine Calls.mono (Any.strings_TrimLeft_one ah b1 x (by simpa[gE]using hg) w) ?_
 rintro e w' ⟨rfl,rfl⟩
 refine⟨ρ,.str ?_,h,Fr.refl _ _ _⟩
 rw[← h1,LC]
theorem TI(h:Av Tryz.prog ρ s w){ys:List AV}{as':Array Value}{v:AV}(hs:P1 s ys=some (v,s1))(has:AK ρ ys as'.toList):CallsIn Fence.wide 0 Tryz.prog 86 as' w (CU Tryz.prog ρ s w v s1):=by
 refine callsIn_wide.2 ?_
 unfold P1 at hs
 split at hs<;>first | (cases hs;done) | skip
 rename_i n
 obtain⟨hg,hs⟩:=AA hs
 injection hs with hs
 injection hs with q1 q2
 subst q1;subst q2
 obtain⟨l0⟩:=as'
 cases has with
 | cons h1 h2 =>
 cases h2
 cases h1
 have hn:n<100:=by simpa[gE]using hg
 refine Calls.mono (Any.strconv_Itoa_small X4 n hn w) ?_
 rintro e w' ⟨rfl,rfl⟩
 refine⟨ρ,.str ?_,h,Fr.refl _ _ _⟩
 rw[TJ n hn]
end
theorem SI:∀l:List Nat,IY 48 l=HK l
 | []=>rfl
 | x::l=>by unfold IY HK;rw[SI l]
def N7:Do:=Ts 265 fun xs s=>ND s xs
theorem YO:BL Tryz.prog N7:=Fc fun ρ s w xs v s1 xs' hc hi hf ha=>⟨⟨_,_,Tryz.func265,rfl⟩,Lm hi hc ha⟩
def bv:Cg:=⟨Tryz.prog,N7⟩
theorem dG:An bv:=⟨rfl,fun f xs s hf=>by
 have h1:Nat.beq f 265=false:=Dq fun e=>hf (by rw[e];decide)
 show N7 f xs s=none
 simp[N7,Ts,h1]⟩
theorem dZ(l:List Nat)(s:AE)(K:AV→AE→Prop)(h:K (.str (HK l)) s):WF bv 265 [.str l,.str [48]] K s:=by
 refine WF.nat (p:=(.str (IY 48 l),s)) ?_ (by rw[SI];exact h)
 show N7 265 [AV.str l,AV.str [48]] s=some (AV.str (IY 48 l),s)
 rfl
def P9(s:AE):List AV→Option (AV×AE)
 | [v]=>(Il s v).bind fun l=>AH (Nat.ble l.length 1000 && Nat.blt (AD l) (1000000000 ^ 7)) (some (.str (YN 7 (AD l)),s))
 | _=>none
section
variable{ρ:A4}{s:AE}{w:World}
theorem Xo{N:Do}(hN:BL Tryz.prog N){f:FuncId}{xs:List AV}{xs':Array Value}(h:Av Tryz.prog ρ s w)(hf:Ag ρ s)(hxs:AK ρ xs xs'.toList){v:AV}(hv:IZ v=true)(hw:WF ⟨Tryz.prog,N⟩ f xs (fun u s'=>u=v) (frz s.next s.heap)):
  (∃fn c,Tryz.prog.funcs[f]? = some fn∧fn.body=some c)∧CallsIn Fence.wide 0 Tryz.prog f xs' w (CU Tryz.prog ρ s w v s):=by
 obtain⟨n,p,hrun,hK⟩:=hw
 have hcall:=(fT Dv (B4 C4) rfl hN n).call ρ (frz s.next s.heap) w f xs p.1 p.2 xs' hrun (h.frz _) hf.frz hxs
 refine⟨hcall.1,CallsIn.mono hcall.2 ?_⟩
 intro e w' he
 cases e with
 | panicked c=>exact he.elim
 | outgrown=>exact he.elim
 | returned v' =>
  obtain⟨ρ',k1,k2,k3⟩:=he
  obtain⟨g1,g2⟩:=h.grown (w1:=w') ⟨k3.os,k3.tape,k3.output,k3.size,fun b hb _=>k3.keep b hb (H8 Tryz.prog _ _ b)⟩
  rw[hK]at k1
  exact⟨ρ,Co hv k1,g1,g2⟩
end
theorem YM:BL Tryz.prog (Ts 230 fun xs s=>P9 s xs):=Fc fun ρ s w xs v s1 xs' hc hi hf ha=>by
 unfold P9 at hc
 split at hc
 ·simp only[ft]at hc
  obtain⟨l,hl,hp⟩:=hc
  obtain⟨hg,hp⟩:=AA hp
  simp only[Bool.and_eq_true,fw,gE]at hg
  injection hp with hp
  injection hp with e1 e2
  subst e1;subst e2
  obtain⟨l1,l2⟩:=Eu hl
  exact Xo YO hi hf ha rfl (YT dG dZ l1 hg.1 l2 hg.2 (by decide) fun s' _=>rfl)
 ·cases hc
def YK:Do:=Ou cF (Ou (Ts 265 fun xs s=>ND s xs) (Ou (Ts 86 fun xs s=>P1 s xs) (Ts 230 fun xs s=>P9 s xs)))
theorem N6:BL Tryz.prog YK:=C5 YJ (C5 (Fc fun ρ s w xs v s1 xs' hc hi hf ha=>⟨⟨_,_,Tryz.func265,rfl⟩,Lm hi hc ha⟩)
 (C5 (Fc fun ρ s w xs v s1 xs' hc hi hf ha=>⟨⟨_,_,Tryz.func86,rfl⟩,TI hi hc ha⟩) YM))
end
end Go.Proofs.YtfgmceookgelcaaGreatDoor.Am
set_option linter.unusedVariables false
set_option linter.unusedSimpArgs false
namespace Go.Proofs.YtfgmceookgelcaaGreatDoor.Am
open Go
noncomputable section
def rest:Nat→Code→Code
 | n+1,.seq a b=>rest n b
 | _,c=>c
def OW:NL→NL→Bool
 | .ro,.ro | .own,.own | .sealed,.sealed=>true
 | _,_=>false
def QN:Option Nat→Option Nat→Bool
 | none,none=>true
 | some a,some b=>Nat.beq a b
 | _,_=>false
def Yw(a b:Bool):Bool:=bif a then b else !b
def aR:List (AV×AV)→List (AV×AV)→Bool
 | [],[]=>true
 | a::l,b::m=>EV a.1 b.1 && (EV a.2 b.2 && aR l m)
 | _,_=>false
def OU(n:Nat)(c c':AB AV):Bool:=match c.take 0 n,c'.take 0 n with
 | some l,some l'=>EV.eqAs l l'
 | _,_=>false
def sameO:AX→AX→Bool
 | .row q,.row r=>Nat.beq q.elem r.elem && (Nat.beq q.sz r.sz && (Nat.beq q.n r.n && (Yw q.spare r.spare && (OW q.mode r.mode && (QN q.par r.par && (Yw q.bytes r.bytes && (QN q.glob r.glob && OU r.n q.c r.c)))))))
 | .map kt es,.map kt' es'=>Nat.beq kt kt' && aR es es'
 | _,_=>false
def CD:List (Nat×AX)→AB AX
 | []=>.leaf
 | p::l=>(CD l).set p.1 p.2
structure Cut where
 lst:List (Nat×AX)
 nx:Nat
 var:List AV
def bP(l:List (Nat×AX))(nx:Nat)(h:AB AX):Bool:=l.all fun p=>Nat.blt p.1 nx && (match h.get p.1 with | some o=>sameO p.2 o | none=>false)
def az:List Nat→Bool
 | []=>true
 | _=>false
def fS(r:Option Au)(C:Cut):Bool:=match r with
 | some q=>Fl q.exit && (az q.marks && (XR q.var C.var && (Nat.ble q.st.next C.nx && bP C.lst C.nx q.st.heap)))
 | none=>false
theorem EC:∀ {l:List (Nat×AX)}{i:Nat}{o:AX},(CD l).get i=some o→(i,o)∈l
 | [],i,o,h=>by cases h
 | p::l,i,o,h=>by
  unfold CD at h
  rw[AB.get_set]at h
  split at h
  ·rename_i e
   injection h with h
   subst e;subst h
   exact gC
  ·exact gG _ (EC h)
theorem Le:∀ {a b:Option Nat},QN a b=true→a=b
 | none,none,_=>rfl
 | some a,some b,h=>by rw[fz h]
theorem OT{a b:Bool}(h:Yw a b=true):a=b:=by cases a<;>cases b<;>first | rfl | cases h
theorem OX{a b:NL}(h:OW a b=true):a=b:=by cases a<;>cases b<;>first | rfl | cases h
theorem MZ:∀ {a b:List (AV×AV)},aR a b=true→a=b
 | [],[],_=>rfl
 | (a1,a2)::l,(b1,b2)::m,h=>by
  simp only[aR,Bool.and_eq_true]at h
  rw[D9 h.1,D9 h.2.1,MZ h.2.2]
 | [],_::_,h=>by cases h
 | _::_,[],h=>by cases h
section
variable{P:Program}{ρ ρ1 ρ2:A4}{s s1 s2:AE}{w w1 w2:World}
theorem Y3{l:List (Nat×AX)}{nx:Nat}{h:AB AX}(hs:bP l nx h=true){i:Nat}{o:AX}(hg:(CD l).get i=some o):i<nx∧∃o',h.get i=some o'∧sameO o o'=true:=by
 have:=List.all_eq_true.1 hs (i,o) (EC hg)
 simp only[Bool.and_eq_true]at this
 refine⟨iB this.1,?_⟩
 have h2:=this.2
 split at h2
 ·rename_i o' ho;exact⟨o',ho,h2⟩
 ·cases h2
end
def D6:AX→AX→Prop
 | .row q,.row r=>q.elem=r.elem∧q.sz=r.sz∧q.n=r.n∧q.spare=r.spare∧q.mode=r.mode∧q.par=r.par∧q.bytes=r.bytes∧q.glob=r.glob∧∃l,q.c.take 0 q.n=some l∧r.c.take 0 r.n=some l
 | .map kt es,.map kt' es'=>kt=kt'∧es=es'
 | _,_=>False
theorem OV{n:Nat}{c c':AB AV}(h:OU n c c'=true):∃l,c.take 0 n=some l∧c'.take 0 n=some l∧EV.eqAs l l=true:=by
 unfold OU at h
 split at h<;>first | (cases h;done) | skip
 rename_i l l' h1 h2
 have:=FD h
 subst this
 exact⟨l,h1,h2,h⟩
theorem GM{a b:AX}(h:sameO a b=true):D6 a b:=by
 unfold sameO at h
 split at h
 ·simp only[Bool.and_eq_true]at h
  obtain⟨h1,h2,h3,h4,h5,h6,h7,h8,h9⟩:=h
  obtain⟨l,k1,k2,_⟩:=OV h9
  have e3:=fz h3
  exact⟨fz h1,fz h2,e3,OT h4,OX h5,Le h6,OT h7,Le h8,l,by rw[e3];exact k1,k2⟩
 ·simp only[Bool.and_eq_true]at h
  exact⟨fz h.1,MZ h.2⟩
 ·cases h
theorem D6.symm{a b:AX}(h:D6 a b):D6 b a:=by
 cases a<;>cases b<;>first | exact h.elim | skip
 ·obtain⟨h1,h2,h3,h4,h5,h6,h7,h8,l,h9,h10⟩:=h
  exact⟨h1.symm,h2.symm,h3.symm,h4.symm,h5.symm,h6.symm,h7.symm,h8.symm,l,h10,h9⟩
 ·exact⟨h.1.symm,h.2.symm⟩
theorem D6.trans{a b c:AX}(h:D6 a b)(k:D6 b c):D6 a c:=by
 cases a<;>cases b<;>first | exact h.elim | skip
 ·cases c<;>first | exact k.elim | skip
  obtain⟨h1,h2,h3,h4,h5,h6,h7,h8,l,h9,h10⟩:=h
  obtain⟨k1,k2,k3,k4,k5,k6,k7,k8,m,k9,k10⟩:=k
  rw[h10]at k9
  injection k9 with k9
  subst k9
  exact⟨h1.trans k1,h2.trans k2,h3.trans k3,h4.trans k4,h5.trans k5,h6.trans k6,h7.trans k7,h8.trans k8,l,h9,k10⟩
 ·cases c<;>first | exact k.elim | skip
  exact⟨h.1.trans k.1,h.2.trans k.2⟩
theorem IT(a:Nat):Nat.beq a a=true:=by simp
theorem D6.sameO    {o a b : AX}   (h : D6    o a) (hb : sameO a b = true) : Am.sameO o a = true := by
  cases o<;>cases a<;>first | exact h.elim | skip
  · rename_i q r
    obtain⟨qe,qs,qn,qc,qsp,qm,qp,qb,qg⟩:=q
    obtain⟨re,rs,rn,rc,rsp,rm,rp,rb,rg⟩:=r
    obtain⟨h1,h2,h3,h4,h5,h6,h7,h8,l,h9,h10⟩:=h
    simp only at h1 h2 h3 h4 h5 h6 h7 h8 h9 h10
    subst h1;subst h2;subst h3;subst h4;subst h5;subst h6;subst h7;subst h8
    cases b with
    | row t =>
      simp only[Am.sameO,Bool.and_eq_true]at hb
      obtain⟨_,_,g3,_,_,_,_,_,g9⟩:=hb
      have e3:qn=t.n:=fz g3
      rw[← e3]at g9
      obtain⟨l',k1,_,k3⟩:=OV g9
      have k1:rc.take 0 qn=some l':=k1
      rw[h10]at k1
      injection k1 with k1
      subst k1
      have e9:OU qn qc rc=true:=by unfold OU;rw[h9,h10];exact k3
      simp only[Am.sameO,Bool.and_eq_true]
      refine⟨IT _,IT _,IT _,by cases qsp<;>rfl,by cases qm<;>rfl,?_,by cases qb<;>rfl,?_,e9⟩
      · cases qp with
        | none=>rfl
        | some x=>exact IT x
      · cases qg with
        | none=>rfl
        | some x=>exact IT x
    | _=>cases hb
  · obtain⟨h1,h2⟩:=h
    subst h1;subst h2
    cases b with
    | map kt' es' =>
      simp only[Am.sameO,Bool.and_eq_true]at hb ⊢
      have:=MZ hb.2
      rw[← this]at hb
      exact⟨IT _,hb.2⟩
    | _=>cases hb
theorem D6.ok{P:Program}{o o':AX}(h:D6 o o'):wr o=wr o'∧EG o=EG o'∧Dc o=Dc o'∧∀ {ρ:A4}{w:World}{rb:RB},Cx P ρ w o' rb→Cx P ρ w o rb:=by
 cases o<;>cases o'<;>first | exact h.elim | skip
 ·rename_i q r
  obtain⟨qe,qs,qn,qc,qsp,qm,qp,qb,qg⟩:=q
  obtain⟨re,rs,rn,rc,rsp,rm,rp,rb,rg⟩:=r
  obtain⟨h1,h2,h3,h4,h5,h6,h7,h8,l,h9,h10⟩:=h
  simp only at h1 h2 h3 h4 h5 h6 h7 h8 h9 h10
  subst h1;subst h2;subst h3;subst h4;subst h5;subst h6;subst h7;subst h8
  refine⟨rfl,rfl,rfl,fun {ρ w x} hok=>?_⟩
  have hok:BF ρ w ⟨qe,qs,qn,rc,qsp,qm,qp,qb,qg⟩ x:=hok
  have hc:∀k,k<qn→qc.get k=rc.get k:=fun k hk=>by
   have a1:=AB.take_get h9 k hk
   have a2:=AB.take_get h10 k hk
   simp only[gA]at a1 a2
   rw[a1,a2]
  exact(show BF ρ w ⟨qe,qs,qn,qc,qsp,qm,qp,qb,qg⟩ x from
   ⟨fun k v hk hv=>hok.cells k v hk (by rw[← hc k hk];exact hv),hok.le,hok.sz,hok.tight,hok.own,hok.base,hok.gl,hok.par⟩)
 ·obtain⟨h1,h2⟩:=h
  subst h1;subst h2
  exact⟨rfl,rfl,rfl,fun h=>h⟩
def B8(L:List (Nat×AX))(i:Nat):Bool:=L.any fun p=>Nat.beq p.1 i
def Ge(h:AB AX)(p:Nat×AX):AB AX:=match h.get p.1 with
 | some o=>bif sameO o p.2 then h else h.set p.1 p.2
 | none=>h.set p.1 p.2
def over(h:AB AX):List (Nat×AX)→AB AX
 | []=>h
 | p::l=>over (Ge h p) l
def XV(h:AB AX):List Nat→AB AX
 | []=>h
 | i::l=>XV (h.del i) l
theorem LG{L:List (Nat×AX)}{i:Nat}:B8 L i=true↔∃o,(i,o)∈L:=by
 unfold B8
 rw[List.any_eq_true]
 constructor
 ·rintro⟨⟨j,o⟩,h1,h2⟩;have:=fz h2;subst this;exact⟨o,h1⟩
 ·rintro⟨o,h⟩;exact⟨(i,o),h,IT i⟩
theorem QD(h:AB AX)(p:Nat×AX):∃o,(Ge h p).get p.1=some o∧(o=p.2∨sameO o p.2=true):=by
  unfold Ge
  cases hg:h.get p.1 with
  | none=>exact⟨p.2,by simp only;rw[AB.get_set,if_pos rfl],.inl rfl⟩
  | some o =>
    simp only
    cases hs:sameO o p.2 with
    | true=>exact⟨o,hg,.inr hs⟩
    | false=>exact⟨p.2,by rw[cond_false,AB.get_set,if_pos rfl],.inl rfl⟩
theorem Ih{h:AB AX}{p:Nat×AX}{i:Nat}(hi:i≠p.1):(Ge h p).get i=h.get i:=by
  unfold Ge
  cases hg:h.get p.1 with
  | none=>simp only;rw[AB.get_set,if_neg hi]
  | some o =>
    simp only
    cases hs:sameO o p.2 with
    | true=>rfl
    | false=>rw[cond_false,AB.get_set,if_neg hi]
theorem FO{i:Nat}:∀ {L:List (Nat×AX)}{h:AB AX},B8 L i=false→(over h L).get i=h.get i
 | [],h,_=>rfl
 | p::l,h,hi=>by
  simp only[B8,List.any_cons,Bool.or_eq_false_iff]at hi
  have hne:i≠p.1:=fun e=>by rw[e,IT]at hi;cases hi.1
  show(over (Ge h p) l).get i=_
  rw[FO (L:=l) hi.2,Ih hne]
theorem OF       {i : Nat} : ∀ {L : List (Nat × AX)}   {h : AB   AX},   B8    L i = true → ∃ o, (over h L).get i = some o ∧ ∃ p ∈ L, p.1 = i ∧ (o = p.2 ∨ sameO o p.2 = true)
  | [],h,hi=>by cases hi
  | p::l,h,hi=>by
    show ∃o,(over (Ge h p) l).get i=some o∧_
    cases hl:B8 l i with
    | true =>
      obtain⟨o,h1,q,h2,h3⟩:=OF (h:=Ge h p) hl
      exact⟨o,h1,q,gG _ h2,h3⟩
    | false =>
      have he:p.1=i:=by
        unfold B8 at hi hl
        rw[List.any_cons,hl,Bool.or_false]at hi
        exact fz hi
      subst he
      obtain⟨o,h1,h2⟩:=QD h p
      exact⟨o,by rw[FO hl];exact h1,p,gC ..,rfl,h2⟩
theorem LX{i:Nat}{o:AX}:∀ {L:List (Nat×AX)}{h:AB AX},h.get i=some o→(∀p∈L,p.1=i→sameO o p.2=true)→(over h L).get i=some o
 | [],h,hg,_=>hg
 | p::l,h,hg,hk=>by
  show(over (Ge h p) l).get i=_
  refine LX ?_ fun q hq=>hk q (gG _ hq)
  by_cases he:i=p.1
  ·subst he
   unfold Ge
   rw[hg]
   simp only
   rw[hk p (gC ..) rfl,cond_true]
   exact hg
  ·rw[Ih he];exact hg
theorem Nj{i:Nat}:∀ {D:List Nat}{h:AB AX},(XV h D).get i=if i∈D then none else h.get i
  | [],h=>by simp[XV]
  | j::l,h=>by
    show(XV (h.del j) l).get i=_
    rw[Nj,AB.get_del]
    by_cases h1:i∈l
    · simp[h1]
    · by_cases h2 : i = j
      · subst h2;simp[h1]
      · simp[h1,h2]
def Tz{α:Type}(f:Nat→α→Bool):AB α→Nat→Nat→Bool
 | .leaf,_,_=>true
 | .node v l r,a,b=>(match v with | some x=>f b x | none=>true) && (Tz f l (2 * a) (a+b) && Tz f r (2 * a) (2 * a+b))
theorem JU       {α : Type} {f : Nat → α → Bool} : ∀ {t : AB   α} {a b k : Nat} {x : α}, Tz   f t a b = true → t.get k = some x → f (a * k + b) x = true
  | .leaf,_,_,_,_,_,h=>by cases h
  | .node v l r, a, b, k, x, h, hg => by
    simp only[Tz,Bool.and_eq_true]at h
    cases k with
    | zero =>
      have hg:v=some x:=hg
      have h1:=h.1
      rw[hg]at h1
      simpa using h1
    | succ k =>
      rw[AB.get_succ]at hg
      by_cases he:k % 2=0
      · rw[if_pos he]at hg
        have:=JU h.2.1 hg
        have e:2 * a * (k / 2)+(a+b)=a * (k+1)+b:=by
          have:2 * a * (k / 2)=a * k:=by rw[gD 2 a,gK];congr 1;omega
          rw[this,gM];omega
        rw[e]at this;exact this
      · rw[if_neg he]at hg
        have:=JU h.2.2 hg
        have e:2 * a * (k / 2)+(2 * a+b)=a * (k+1)+b:=by
          have h2:k=2 * (k / 2)+1:=by omega
          generalize k / 2=m at *
          subst h2
          rw[gM,gM,← gK,gD a 2];omega
        rw[e]at this;exact this
structure FZ where
 f:FuncId
 xs:List AV
 n0:Nat
 L0:List (Nat×AX)
 v:AV
 n1:Nat
 L1:List (Nat×AX)
 D:List Nat
def FZ.at(r:FZ):Do:=fun f xs s=>AH (Nat.beq f r.f && (EV (.tuple xs) (.tuple r.xs) && (Nat.beq s.next r.n0 && (bP r.L0 r.n0 s.heap && Tz (fun i o=>B8 r.L0 i || (match EG o with | some k=>!B8 r.L0 k | none=>true)) s.heap 1 0)))) (some (r.v,⟨r.n1,XV (over s.heap r.L1) r.D⟩))
def Yv(r:FZ)(v:AV)(q:AE):Bool:=
 EV v r.v && (Nat.ble r.n0 r.n1 && (Nat.ble q.next r.n1 && (bP r.L1 r.n1 q.heap && ((r.L1.all fun p=>B8 r.L0 p.1 || Nat.ble r.n0 p.1) && ((r.D.all fun i=>B8 r.L0 i && ((q.heap.get i).isNone && !B8 r.L1 i)) &&
 ((r.L0.all fun p=>B8 r.L1 p.1 || (r.D.any (Nat.beq p.1) || (match q.heap.get p.1 with | some o=>sameO p.2 o | none=>false))) &&
 (r.L0.all fun p=>match EG p.2 with | some k=>B8 r.L0 k | none=>true)))))))
def G0 (E:Cg) (n:Nat) (r:FZ):Bool:=match (Ct E n).call r.f r.xs ⟨r.n0,CD r.L0⟩with
 | some p=>Yv r p.1 p.2
 | none=>false
theorem ED{i:Nat}:∀ {L:List (Nat×AX)},B8 L i=true→∃o,(CD L).get i=some o
  | [],h=>by cases h
  | p::l,h=>by
    show ∃o,((CD l).set p.1 p.2).get i=some o
    rw[AB.get_set]
    by_cases e:i=p.1
    · exact⟨p.2,if_pos e⟩
    · rw [if_neg e]
      refine ED ?_
      unfold B8 at h ⊢
      rw[List.any_cons,Bool.or_eq_true]at h
      rcases h with h | h
      · exact absurd (fz h).symm e
      · exact h
theorem FZ.callOk   {P : Program} (hm : P.follows .mixedOrders = true) (hng : DO      P) {E : Cg}  (hE : E.P = P) (hnat : BL     P E.nat) {n : Nat} {r : FZ}   (hrow : G0     E n r = true) : BL     P r.at := by
  intro ρ s w f xs v s1 xs' hc hi hf ha
  unfold FZ.at at hc
  obtain⟨hg,hc2⟩:=AA hc
  simp only[Bool.and_eq_true]at hg
  obtain⟨g1,g2,g3,hsub,hall⟩:=hg
  have e1:=fz g1
  have e2:=D9 g2
  injection e2 with e2
  have hn0:=fz g3
  subst e1;subst e2
  injection hc2 with hc2
  injection hc2 with ev es
  unfold G0 at hrow
  cases hrun:(Ct E n).call r.f r.xs ⟨r.n0,CD r.L0⟩with
  | none=>rw[hrun]at hrow;cases hrow
  | some p =>
  rw[hrun]at hrow
  obtain⟨pv,q⟩:=p
  have hrow:Yv r pv q=true:=hrow
  unfold Yv at hrow
  simp only[Bool.and_eq_true]at hrow
  obtain⟨c1,c2,c3,c4,c5,c6,c7,c8⟩:=hrow
  have hpv:=D9 c1
  have hn01:=iB c2
  have hq1:=iB c3
  subst hpv
  have sub0:∀i o,(CD r.L0).get i=some o→i<r.n0∧B8 r.L0 i=true∧∃o',s.heap.get i=some o'∧D6 o o'∧sameO o o'=true:=fun i o hg=>by
    obtain⟨h1,o',h2,h3⟩:=Y3 hsub hg
    exact⟨h1,LG.2 ⟨o,EC hg⟩,o',h2,GM h3,h3⟩
  have hi0:Av P ρ ⟨r.n0,CD r.L0⟩ w:=by
    refine⟨fun i o rb hg hρ=>?_,hi.lt,fun i j oi oj ri rj hne hgi hgj hri hrj hb hw=>?_,fun i o g hg hgl=>?_⟩
    · obtain⟨_,_,o',k1,k2,_⟩:=sub0 i o hg
      exact(k2.ok).2.2.2 (hi.obj i o' rb k1 hρ)
    · obtain ⟨_, _, oi', k1, k2, _⟩ := sub0 i oi hgi
      obtain⟨_,_,oj',m1,m2,_⟩:=sub0 j oj hgj
      obtain⟨a1,a2,_⟩:=k2.ok (P:=P)
      obtain⟨b1,b2,_⟩:=m2.ok (P:=P)
      rw[b1]at hw
      rw[a1,b2]
      exact hi.sep i j oi' oj' ri rj hne k1 m1 hri hrj hb hw
    · obtain⟨_,_,o',k1,k2,_⟩:=sub0 i o hg
      rw[(k2.ok (P:=P)).2.2.1]at hgl
      exact hi.glb i o' g k1 hgl
  have hf0:Ag ρ ⟨r.n0,CD r.L0⟩:=fun i hi'=>by
    have hi':r.n0≤i:=hi'
    refine⟨(hf i (by omega)).1,?_⟩
    cases hg:(CD r.L0).get i with
    | none=>rfl
    | some o=>have:=(sub0 i o hg).1;omega
  have hcall:=(fT hm hng hE hnat n).call ρ ⟨r.n0,CD r.L0⟩ w r.f r.xs r.v q xs' hrun hi0 hf0 ha
  refine⟨hcall.1,CallsIn.mono hcall.2 ?_⟩
  intro e w' he
  cases e with
  | panicked c=>exact he.elim
  | outgrown=>exact he.elim
  | returned v' =>
  obtain⟨ρ',k1,k2,k3⟩:=he
  refine⟨ρ',by rw[← ev];exact k1,?_⟩
  have hn1:s1.next=r.n1:=by rw[← es]
  have hget:∀i,s1.heap.get i=if i∈r.D then none else (over s.heap r.L1).get i:=fun i=>by rw[← es];exact Nj
  have hL1:∀p∈r.L1,p.1<r.n1∧∃oq,q.heap.get p.1=some oq∧sameO p.2 oq=true:=fun p hp=>by
    have:=List.all_eq_true.1 c4 p hp
    simp only[Bool.and_eq_true]at this
    refine⟨iB this.1,?_⟩
    have h2:=this.2
    split at h2
    · rename_i oq ho;exact⟨oq,ho,h2⟩
    · cases h2
  have cls:∀i o,s1.heap.get i=some o→(∃oq,q.heap.get i=some oq∧D6 o oq∧(B8 r.L0 i=true∨r.n0≤i))∨(i<r.n0∧B8 r.L0 i=false∧s.heap.get i=some o):=by
    intro i o ho
    rw[hget]at ho
    by_cases hD:i∈r.D
    · rw[if_pos hD]at ho;cases ho
    rw[if_neg hD]at ho
    cases hl:B8 r.L1 i with
    | true =>
      obtain⟨o',h1,p,h2,h3,h4⟩:=OF (h:=s.heap) hl
      rw[h1]at ho
      injection ho with ho
      subst ho
      obtain⟨h5,oq,h6,h7⟩:=hL1 p h2
      have h8:D6 o' oq:=by
        rcases h4 with rfl | h4
        · exact GM h7
        · exact(GM h4).trans (GM h7)
      subst h3
      refine .inl ⟨oq,h6,h8,?_⟩
      have:=List.all_eq_true.1 c5 p h2
      simp only[Bool.or_eq_true]at this
      exact this.imp id fun h=>iB h
    | false =>
      rw[FO hl]at ho
      have hin:i<r.n0:=by
        rcases fv i s.next with h | h
        · omega
        · rw[(hf i h).2]at ho;cases ho
      cases hl0:B8 r.L0 i with
      | false=>exact .inr ⟨hin,rfl,ho⟩
      | true =>
        obtain⟨o0,h1⟩:=ED hl0
        obtain⟨_,_,o',h2,h3,_⟩:=sub0 i o0 h1
        rw[ho]at h2
        injection h2 with h2
        subst h2
        have:=List.all_eq_true.1 c7 (i,o0) (EC h1)
        simp only[Bool.or_eq_true,hl]at this
        rcases this with h | h | h
        · cases h
        · obtain⟨j,hj,he⟩:=List.any_eq_true.1 h
          have:=fz he
          subst this
          exact absurd hj hD
        · split at h
          · rename_i oq hoq;exact .inl ⟨oq,hoq,h3.symm.trans (GM h),.inl rfl⟩
          · cases h
  have back:∀i rb,i<r.n0→ρ' i=some rb→ρ i=some rb:=fun i rb hin hr=>by
    cases h:ρ i with
    | none=>rw[k3.fresh i h (.inl hin)]at hr;cases hr
    | some rb'=>have:=k3.le _ _ h;rw[hr]at this;exact this.symm▸rfl
  have notOwned:∀i o ri,s.heap.get i=some o→B8 r.L0 i=false→ρ i=some ri→¬ Dh ρ ⟨r.n0,CD r.L0⟩ ri.b:=by
    rintro i o ri ho hl hri ⟨j,oj,rj,hj,hw,hrj,hb⟩
    obtain⟨_,m1,oj',m2,m3,_⟩:=sub0 j oj hj
    obtain⟨b1,b2,_⟩:=m3.ok (P:=P)
    have hne:i≠j:=fun e=>by rw[e,m1]at hl;cases hl
    have hpar:=(hi.sep i j o oj' ri rj hne ho m2 hri hrj hb.symm (by rw[← b1];exact hw)).1
    rw[← b2]at hpar
    have:=List.all_eq_true.1 c8 (j,oj) (EC hj)
    simp only[hpar]at this
    rw[this]at hl
    cases hl
  have owned0:∀b,Dh ρ ⟨r.n0,CD r.L0⟩ b→Dh ρ s b:=by
    rintro b ⟨j,oj,rj,hj,hw,hrj,hb⟩
    obtain⟨_,_,oj',m2,m3,_⟩:=sub0 j oj hj
    exact⟨j,oj',rj,m2,by rw[← (m3.ok (P:=P)).1];exact hw,hrj,hb⟩
  have ownedQ:∀i oq rb,q.heap.get i=some oq→wr oq=true→ρ' i=some rb→rb.b<w.heap.size→Dh ρ ⟨r.n0,CD r.L0⟩ rb.b:=fun i oq rb ho hw hr hlt=>by
    rcases k3.own rb.b ⟨i,oq,rb,ho,hw,hr,rfl⟩with h | h
    · exact h
    · omega
  refine⟨⟨fun i o rb ho hr=>?_,k2.lt,fun i j oi oj ri rj hne hoi hoj hri hrj hb hw=>?_,fun i o g ho hg=>?_⟩,?_⟩
  · rcases cls i o ho with ⟨oq, h1, h2, _⟩ | ⟨h1, h2, h3⟩
    · exact h2.ok.2.2.2 (k2.obj i oq rb h1 hr)
    · have hr0:=back i rb h1 hr
      exact(hi.obj i o rb h3 hr0).mono k3.le (k3.keep rb.b (hi.lt i rb hr0) (notOwned i o rb h3 h2 hr0))
  · rcases cls i oi hoi with ⟨oqi, h1, h2, h2'⟩ | ⟨h1, h2, h3⟩
    · rcases cls j oj hoj with ⟨oqj, m1, m2, _⟩ | ⟨m1, m2, m3⟩
      · obtain ⟨a1, a2, _⟩ := h2.ok (P := P)
        obtain⟨b1,b2,_⟩:=m2.ok (P:=P)
        rw[b1]at hw
        rw[a1,b2]
        exact k2.sep i j oqi oqj ri rj hne h1 m1 hri hrj hb hw
      · have hrj0 := back j rj m1 hrj
        have hno:=notOwned j oj rj m3 m2 hrj0
        have npar:∀k,B8 r.L0 k=true→EG oj≠some k:=fun k hk e=>by
          have:=JU hall m3
          rw[show 1 * j+0=j from by omega,m2]at this
          simp[e,hk]at this
        have hbl:ri.b<w.heap.size:=by rw[hb];exact hi.lt j rj hrj0
        rcases h2' with h2' | h2'
        · obtain ⟨o0, hh⟩ := ED         h2'
          obtain⟨g1,_,oi',g2,_⟩:=sub0 i o0 hh
          exact absurd (hi.sep i j oi' oj ri rj hne g2 m3 (back i ri g1 hri) hrj0 hb hw).1 (npar i h2')
        · have hri0:ρ i=none:=(hf i (by omega)).1
          rcases k3.blk i ri hri hri0 with h | ⟨j0,o0,rj0,q1,q2,q3⟩
          · omega
          · obtain⟨_,q4,oj0,q5,q6,_⟩:=sub0 j0 o0 q1
            have hne0:j0≠j:=fun e=>by rw[e,m2]at q4;cases q4
            exact absurd (hi.sep j0 j oj0 oj rj0 rj hne0 q5 m3 q2 hrj0 (q3.trans hb) hw).1 (npar j0 q4)
    · have hri0:=back i ri h1 hri
      rcases cls j oj hoj with⟨oqj,m1,m2,_⟩ | ⟨m1,m2,m3⟩
      · rw[(m2.ok (P:=P)).1]at hw
        have:=ownedQ j oqj rj m1 hw hrj (by rw[← hb];exact hi.lt i ri hri0)
        rw[← hb]at this
        exact absurd this (notOwned i oi ri h3 h2 hri0)
      · exact hi.sep i j oi oj ri rj hne h3 m3 hri0 (back j rj m1 hrj) hb hw
  · rcases cls i o ho with ⟨oq, h1, h2, _⟩ | ⟨h1, h2, h3⟩
    · rw[(h2.ok (P:=P)).2.2.1]at hg
      exact k2.glb i oq g h1 hg
    · obtain⟨rb,h4⟩:=hi.glb i o g h3 hg
      exact⟨rb,k3.le _ _ h4⟩
  · refine ⟨k3.le, fun i h hor => k3.fresh i h ?_, by rw [hn1, hn0]; exact hn01, k3.size, k3.os, k3.tape, k3.output, fun b hb ho => k3.keep b hb fun h => ho (owned0 b h), fun b hb => ?_, fun i h hor => ?_, fun i rb hr h0 => ?_, fun i o rb ho h0 => ?_⟩
    · rw[hn1,hn0]at hor
      exact hor.imp id fun h=>fx hq1 h
    · obtain⟨i,o,rb,ho,hw,hr,hb⟩:=hb
      rcases cls i o ho with⟨oq,h1,h2,_⟩ | ⟨h1,h2,h3⟩
      · rw [(h2.ok (P := P)).1] at hw
        rcases k3.own b ⟨i,oq,rb,h1,hw,hr,hb⟩with h | h
        · exact .inl (owned0 b h)
        · exact .inr h
      · exact .inl ⟨i,o,rb,h3,hw,back i rb h1 hr,hb⟩
    · rw [hn1, hn0] at hor
      rw[hget]
      have hD:i ∉ r.D:=fun hD=>by
        have:=List.all_eq_true.1 c6 i hD
        simp only[Bool.and_eq_true,Option.isNone_iff_eq_none]at this
        obtain⟨d1,d2,_⟩:=this
        obtain⟨o0,hh⟩:=ED d1
        have hin:=(sub0 i o0 hh).1
        have:=k3.unborn i h (.inl hin)
        rw[d2]at this
        have hh':(⟨r.n0,CD r.L0⟩:AE).heap.get i=some o0:=hh
        rw[hh']at this
        cases this
      rw[if_neg hD]
      cases hl:B8 r.L1 i with
      | false=>exact FO hl
      | true =>
        obtain⟨o1,h1⟩:=LG.1 hl
        have hlt:=(hL1 _ h1).1
        have hlt:i<r.n1:=hlt
        have hin:i<r.n0:=by omega
        have hl0:B8 r.L0 i=true:=by
          have:=List.all_eq_true.1 c5 _ h1
          simp only[Bool.or_eq_true]at this
          rcases this with h' | h'
          · exact h'
          · have:=iB h';omega
        obtain⟨o0,hh⟩:=ED hl0
        obtain⟨_,_,o,g2,g3,_⟩:=sub0 i o0 hh
        have hq:=k3.unborn i h (.inl hin)
        have hh':(⟨r.n0,CD r.L0⟩:AE).heap.get i=some o0:=hh
        rw[hh']at hq
        rw[g2]
        refine LX g2 fun p hp hpi=>?_
        obtain⟨_,oq,m1,m2⟩:=hL1 p hp
        rw[hpi,hq]at m1
        injection m1 with m1
        subst m1
        exact(g3.symm.trans (GM m2).symm).sameO m2
    · rcases k3.blk i rb hr h0 with h | ⟨j0, o0, rj0, q1, q2, q3⟩
      · exact .inl h
      · obtain⟨_,_,oj0,q5,_⟩:=sub0 j0 o0 q1
        exact .inr ⟨j0,oj0,rj0,q5,q2,q3⟩
    · rcases cls i o ho with ⟨oq, h1, h2, h3⟩ | ⟨h1, h2, h3⟩
      · obtain ⟨o0, q1⟩ := k3.dom i oq rb h1 h0
        obtain⟨_,_,o',q5,_⟩:=sub0 i o0 q1
        exact⟨o',q5⟩
      · exact⟨o,h3⟩
end
end Go.Proofs.YtfgmceookgelcaaGreatDoor.Am
set_option linter.unusedVariables false
set_option maxRecDepth 100000
namespace Go.Proofs.YtfgmceookgelcaaGreatDoor.Am
open Go Go.Proofs
noncomputable section
def dE:Do:=YK
def fo:FZ:=⟨7,[(.ptr (some (4,0))),(.agg [(.int .i64 (1)),(.int .i64 (9)),(.str [43]),(.slice (some (18,0)) 2 (some 2)),(.int .i64 (0)),(.int .i64 (0)),(.int .i64 (0)),(.int .i64 (0)),(.int .i64 (0))])],197,[
 (0,.map 104 [((.agg [(.int .i64 (0)),(.int .i64 (9)),(.int .i64 (0)),(.int .i64 (0)),(.int .i64 (0)),(.str [])]),(.int .i64 (0))),((.agg [(.int .i64 (0)),(.int .i64 (1)),(.int .i64 (0)),(.int .i64 (0)),(.int .i64 (0)),(.str [])]),(.int .i64 (1))),((.agg [(.int .i64 (2)),(.int .i64 (0)),(.int .i64 (0)),(.int .i64 (0)),(.int .i64 (0)),(.str [51])]),(.int .i64 (2))),((.agg [(.int .i64 (2)),(.int .i64 (0)),(.int .i64 (0)),(.int .i64 (0)),(.int .i64 (0)),(.str [34,97,34])]),(.int .i64 (3)))]),
 (1,.row ⟨92,0,2,AB.fill .leaf 0 [(.slice (some (144,0)) 4 none),(.map (some 0))],false,.own,none,true,none⟩),
 (2,.map 57 [((.agg [(.int .i64 (0)),(.int .i64 (0)),(.int .i64 (0)),(.int .i64 (0)),(.str [])]),(.int .i64 (0))),((.agg [(.int .i64 (1)),(.int .i64 (0)),(.int .i64 (0)),(.int .i64 (0)),(.str [])]),(.int .i64 (1))),((.agg [(.int .i64 (7)),(.int .i64 (2)),(.int .i64 (1)),(.int .i64 (-1)),(.str [])]),(.int .i64 (2))),((.agg [(.int .i64 (7)),(.int .i64 (4)),(.int .i64 (1)),(.int .i64 (-1)),(.str [])]),(.int .i64 (3))),((.agg [(.int .i64 (8)),(.int .i64 (0)),(.int .i64 (1)),(.int .i64 (3)),(.str [])]),(.int .i64 (4)))]),
 (3,.map 345 []),
 (4,.row ⟨52,0,5,AB.fill .leaf 0 [(.ptr (some (1,0))),(.slice (some (190,0)) 5 none),(.map (some 2)),(.slice none 0 (some 0)),(.map (some 3))],false,.own,none,true,none⟩),
 (18,.row ⟨29,8,16,AB.fill .leaf 0 [(.int .i64 (1)),(.int .i64 (0)),(.bool false),(.str []),(.str []),(.slice none 0 (some 0)),(.slice none 0 (some 0)),(.int .i64 (0)),(.int .i64 (-1)),(.int .i64 (2)),(.bool false),(.str [51]),(.str []),(.slice none 0 (some 0)),(.slice none 0 (some 0)),(.int .i64 (0))],false,.own,none,true,none⟩),
 (35,.map 3 [((.int .i64 (9)),(.int .i64 (1)))]),
 (44,.map 3 [((.int .i64 (1)),(.int .i64 (1)))]),
 (78,.map 3 []),
 (81,.row ⟨112,16,48,AB.fill .leaf 0 [(.int .i64 (0)),(.int .i64 (9)),(.int .i64 (0)),(.int .i64 (0)),(.int .i64 (0)),(.str []),(.int .i64 (0)),(.bool false),(.str []),(.str []),(.slice none 0 (some 0)),(.slice none 0 (some 0)),(.int .i64 (0)),(.int .i64 (0)),(.int .i64 (1)),(.map (some 35)),(.int .i64 (0)),(.int .i64 (1)),(.int .i64 (0)),(.int .i64 (0)),(.int .i64 (0)),(.str []),(.int .i64 (0)),(.bool false),(.str []),(.str []),(.slice none 0 (some 0)),(.slice none 0 (some 0)),(.int .i64 (0)),(.int .i64 (0)),(.int .i64 (1)),(.map (some 44)),(.int .i64 (2)),(.int .i64 (0)),(.int .i64 (0)),(.int .i64 (0)),(.int .i64 (0)),(.str [51]),(.int .i64 (2)),(.bool false),(.str [51]),(.str []),(.slice none 0 (some 0)),(.slice none 0 (some 0)),(.int .i64 (0)),(.int .i64 (0)),(.int .i64 (1)),(.map (some 78))],true,.sealed,none,true,none⟩),
 (141,.map 3 []),
 (144,.row ⟨112,16,64,AB.fill .leaf 0 [(.int .i64 (0)),(.int .i64 (9)),(.int .i64 (0)),(.int .i64 (0)),(.int .i64 (0)),(.str []),(.int .i64 (0)),(.bool false),(.str []),(.str []),(.slice none 0 (some 0)),(.slice none 0 (some 0)),(.int .i64 (0)),(.int .i64 (0)),(.int .i64 (1)),(.map (some 35)),(.int .i64 (0)),(.int .i64 (1)),(.int .i64 (0)),(.int .i64 (0)),(.int .i64 (0)),(.str []),(.int .i64 (0)),(.bool false),(.str []),(.str []),(.slice none 0 (some 0)),(.slice none 0 (some 0)),(.int .i64 (0)),(.int .i64 (0)),(.int .i64 (1)),(.map (some 44)),(.int .i64 (2)),(.int .i64 (0)),(.int .i64 (0)),(.int .i64 (0)),(.int .i64 (0)),(.str [51]),(.int .i64 (2)),(.bool false),(.str [51]),(.str []),(.slice none 0 (some 0)),(.slice none 0 (some 0)),(.int .i64 (0)),(.int .i64 (0)),(.int .i64 (1)),(.map (some 78)),(.int .i64 (2)),(.int .i64 (0)),(.int .i64 (0)),(.int .i64 (0)),(.int .i64 (0)),(.str [34,97,34]),(.int .i64 (3)),(.bool false),(.str []),(.str [97]),(.slice none 0 (some 0)),(.slice none 0 (some 0)),(.int .i64 (0)),(.int .i64 (0)),(.int .i64 (1)),(.map (some 141))],true,.own,(some 81),true,none⟩),
 (162,.row ⟨68,13,52,AB.fill .leaf 0 [(.int .i64 (0)),(.int .i64 (0)),(.int .i64 (0)),(.int .i64 (0)),(.str []),(.slice none 0 (some 0)),(.bool false),(.slice none 0 (some 0)),(.slice none 0 (some 0)),(.slice none 0 (some 0)),(.slice none 0 (some 0)),(.int .i64 (1)),(.str [116,114,117,101]),(.int .i64 (1)),(.int .i64 (0)),(.int .i64 (0)),(.int .i64 (0)),(.str []),(.slice none 0 (some 0)),(.bool false),(.slice none 0 (some 0)),(.slice none 0 (some 0)),(.slice none 0 (some 0)),(.slice none 0 (some 0)),(.int .i64 (1)),(.str [102,97,108,115,101]),(.int .i64 (7)),(.int .i64 (2)),(.int .i64 (1)),(.int .i64 (-1)),(.str []),(.slice none 0 (some 0)),(.bool false),(.slice none 0 (some 0)),(.slice none 0 (some 0)),(.slice none 0 (some 0)),(.slice none 0 (some 0)),(.int .i64 (2)),(.str [40,105,110,116,63,32,120,49,41]),(.int .i64 (7)),(.int .i64 (4)),(.int .i64 (1)),(.int .i64 (-1)),(.str []),(.slice none 0 (some 0)),(.bool false),(.slice none 0 (some 0)),(.slice none 0 (some 0)),(.slice none 0 (some 0)),(.slice none 0 (some 0)),(.int .i64 (2)),(.str [40,100,105,99,116,63,32,120,49,41])],true,.sealed,none,true,none⟩),
 (190,.row ⟨68,13,65,AB.fill .leaf 0 [(.int .i64 (0)),(.int .i64 (0)),(.int .i64 (0)),(.int .i64 (0)),(.str []),(.slice none 0 (some 0)),(.bool false),(.slice none 0 (some 0)),(.slice none 0 (some 0)),(.slice none 0 (some 0)),(.slice none 0 (some 0)),(.int .i64 (1)),(.str [116,114,117,101]),(.int .i64 (1)),(.int .i64 (0)),(.int .i64 (0)),(.int .i64 (0)),(.str []),(.slice none 0 (some 0)),(.bool false),(.slice none 0 (some 0)),(.slice none 0 (some 0)),(.slice none 0 (some 0)),(.slice none 0 (some 0)),(.int .i64 (1)),(.str [102,97,108,115,101]),(.int .i64 (7)),(.int .i64 (2)),(.int .i64 (1)),(.int .i64 (-1)),(.str []),(.slice none 0 (some 0)),(.bool false),(.slice none 0 (some 0)),(.slice none 0 (some 0)),(.slice none 0 (some 0)),(.slice none 0 (some 0)),(.int .i64 (2)),(.str [40,105,110,116,63,32,120,49,41]),(.int .i64 (7)),(.int .i64 (4)),(.int .i64 (1)),(.int .i64 (-1)),(.str []),(.slice none 0 (some 0)),(.bool false),(.slice none 0 (some 0)),(.slice none 0 (some 0)),(.slice none 0 (some 0)),(.slice none 0 (some 0)),(.int .i64 (2)),(.str [40,100,105,99,116,63,32,120,49,41]),(.int .i64 (8)),(.int .i64 (0)),(.int .i64 (1)),(.int .i64 (3)),(.str []),(.slice none 0 (some 0)),(.bool false),(.slice none 0 (some 0)),(.slice none 0 (some 0)),(.slice none 0 (some 0)),(.slice none 0 (some 0)),(.int .i64 (3)),(.str [40,104,97,115,32,120,49,32,34,97,34,41])],true,.own,(some 162),true,none⟩)],(.int .i64 (9)),2574,[
 (2,.map 57 [((.agg [(.int .i64 (0)),(.int .i64 (0)),(.int .i64 (0)),(.int .i64 (0)),(.str [])]),(.int .i64 (0))),((.agg [(.int .i64 (1)),(.int .i64 (0)),(.int .i64 (0)),(.int .i64 (0)),(.str [])]),(.int .i64 (1))),((.agg [(.int .i64 (7)),(.int .i64 (2)),(.int .i64 (1)),(.int .i64 (-1)),(.str [])]),(.int .i64 (2))),((.agg [(.int .i64 (7)),(.int .i64 (4)),(.int .i64 (1)),(.int .i64 (-1)),(.str [])]),(.int .i64 (3))),((.agg [(.int .i64 (8)),(.int .i64 (0)),(.int .i64 (1)),(.int .i64 (3)),(.str [])]),(.int .i64 (4))),((.agg [(.int .i64 (7)),(.int .i64 (2)),(.int .i64 (0)),(.int .i64 (-1)),(.str [])]),(.int .i64 (5))),((.agg [(.int .i64 (5)),(.int .i64 (0)),(.int .i64 (0)),(.int .i64 (0)),(.str [45,49,118,48,32,49,118,49,32,52])]),(.int .i64 (6))),((.agg [(.int .i64 (4)),(.int .i64 (0)),(.int .i64 (0)),(.int .i64 (0)),(.str [54,32])]),(.int .i64 (7))),((.agg [(.int .i64 (5)),(.int .i64 (0)),(.int .i64 (0)),(.int .i64 (0)),(.str [45,49,118,48,32,49,118,49,32,51])]),(.int .i64 (8))),((.agg [(.int .i64 (2)),(.int .i64 (0)),(.int .i64 (0)),(.int .i64 (0)),(.str [53,32,55,32,56,32])]),(.int .i64 (9)))]),
 (4,.row ⟨52,0,5,AB.fill .leaf 0 [(.ptr (some (1,0))),(.slice (some (2573,0)) 10 none),(.map (some 2)),(.slice none 0 (some 0)),(.map (some 3))],false,.own,none,true,none⟩),
 (1214,.row ⟨203,1,1,AB.fill .leaf 0 [(.int .u32 (4))],true,.own,none,false,none⟩),
 (1215,.row ⟨203,1,1,AB.fill .leaf 0 [(.int .u32 (1))],true,.own,none,false,none⟩),
 (1225,.row ⟨203,1,1,AB.fill .leaf 0 [(.int .u32 (1))],true,.own,none,false,none⟩),
 (1226,.row ⟨203,1,1,AB.fill .leaf 0 [(.int .u32 (1))],true,.own,none,false,none⟩),
 (1236,.row ⟨203,1,1,AB.fill .leaf 0 [(.int .u32 (1))],true,.own,none,false,none⟩),
 (1237,.row ⟨203,1,1,AB.fill .leaf 0 [(.int .u32 (1))],true,.own,none,false,none⟩),
 (1249,.row ⟨3,1,1,AB.fill .leaf 0 [(.int .i64 (0))],true,.sealed,none,true,none⟩),
 (1250,.row ⟨63,3,3,AB.fill .leaf 0 [(.bool true),(.slice (some (1225,0)) 1 none),(.slice (some (1226,0)) 1 none)],true,.sealed,none,true,none⟩),
 (1255,.row ⟨3,1,2,AB.fill .leaf 0 [(.int .i64 (0)),(.int .i64 (1))],true,.own,(some 1249),true,none⟩),
 (1256,.row ⟨63,3,6,AB.fill .leaf 0 [(.bool true),(.slice (some (1225,0)) 1 none),(.slice (some (1226,0)) 1 none),(.bool false),(.slice (some (1236,0)) 1 none),(.slice (some (1237,0)) 1 none)],true,.own,(some 1250),true,none⟩),
 (1527,.row ⟨3,1,1,AB.fill .leaf 0 [(.int .i64 (6))],false,.own,none,true,none⟩),
 (2111,.row ⟨203,1,1,AB.fill .leaf 0 [(.int .u32 (1))],true,.own,none,false,none⟩),
 (2112,.row ⟨203,1,1,AB.fill .leaf 0 [(.int .u32 (1))],true,.own,none,false,none⟩),
 (2122,.row ⟨203,1,1,AB.fill .leaf 0 [(.int .u32 (1))],true,.own,none,false,none⟩),
 (2123,.row ⟨203,1,1,AB.fill .leaf 0 [(.int .u32 (1))],true,.own,none,false,none⟩),
 (2135,.row ⟨3,1,1,AB.fill .leaf 0 [(.int .i64 (0))],true,.sealed,none,true,none⟩),
 (2136,.row ⟨63,3,3,AB.fill .leaf 0 [(.bool true),(.slice (some (2111,0)) 1 none),(.slice (some (2112,0)) 1 none)],true,.sealed,none,true,none⟩),
 (2141,.row ⟨3,1,2,AB.fill .leaf 0 [(.int .i64 (0)),(.int .i64 (1))],true,.own,(some 2135),true,none⟩),
 (2142,.row ⟨63,3,6,AB.fill .leaf 0 [(.bool true),(.slice (some (2111,0)) 1 none),(.slice (some (2112,0)) 1 none),(.bool false),(.slice (some (2122,0)) 1 none),(.slice (some (2123,0)) 1 none)],true,.own,(some 2136),true,none⟩),
 (2207,.row ⟨203,1,1,AB.fill .leaf 0 [(.int .u32 (3))],true,.own,none,false,none⟩),
 (2208,.row ⟨203,1,1,AB.fill .leaf 0 [(.int .u32 (1))],true,.own,none,false,none⟩),
 (2531,.row ⟨68,13,117,AB.fill .leaf 0 [(.int .i64 (0)),(.int .i64 (0)),(.int .i64 (0)),(.int .i64 (0)),(.str []),(.slice none 0 (some 0)),(.bool false),(.slice none 0 (some 0)),(.slice none 0 (some 0)),(.slice none 0 (some 0)),(.slice none 0 (some 0)),(.int .i64 (1)),(.str [116,114,117,101]),(.int .i64 (1)),(.int .i64 (0)),(.int .i64 (0)),(.int .i64 (0)),(.str []),(.slice none 0 (some 0)),(.bool false),(.slice none 0 (some 0)),(.slice none 0 (some 0)),(.slice none 0 (some 0)),(.slice none 0 (some 0)),(.int .i64 (1)),(.str [102,97,108,115,101]),(.int .i64 (7)),(.int .i64 (2)),(.int .i64 (1)),(.int .i64 (-1)),(.str []),(.slice none 0 (some 0)),(.bool false),(.slice none 0 (some 0)),(.slice none 0 (some 0)),(.slice none 0 (some 0)),(.slice none 0 (some 0)),(.int .i64 (2)),(.str [40,105,110,116,63,32,120,49,41]),(.int .i64 (7)),(.int .i64 (4)),(.int .i64 (1)),(.int .i64 (-1)),(.str []),(.slice none 0 (some 0)),(.bool false),(.slice none 0 (some 0)),(.slice none 0 (some 0)),(.slice none 0 (some 0)),(.slice none 0 (some 0)),(.int .i64 (2)),(.str [40,100,105,99,116,63,32,120,49,41]),(.int .i64 (8)),(.int .i64 (0)),(.int .i64 (1)),(.int .i64 (3)),(.str []),(.slice none 0 (some 0)),(.bool false),(.slice none 0 (some 0)),(.slice none 0 (some 0)),(.slice none 0 (some 0)),(.slice none 0 (some 0)),(.int .i64 (3)),(.str [40,104,97,115,32,120,49,32,34,97,34,41]),(.int .i64 (7)),(.int .i64 (2)),(.int .i64 (0)),(.int .i64 (-1)),(.str []),(.slice none 0 (some 0)),(.bool false),(.slice none 0 (some 0)),(.slice none 0 (some 0)),(.slice none 0 (some 0)),(.slice none 0 (some 0)),(.int .i64 (2)),(.str [40,105,110,116,63,32,120,57,41]),(.int .i64 (5)),(.int .i64 (0)),(.int .i64 (0)),(.int .i64 (0)),(.str [45,49,118,48,32,49,118,49,32,52]),(.slice none 0 (some 0)),(.bool false),(.slice (some (1214,0)) 1 none),(.slice (some (1215,0)) 1 none),(.slice (some (1255,0)) 2 none),(.slice (some (1256,0)) 2 none),(.int .i64 (3)),(.str [40,108,101,32,49,32,120,49,32,45,49,32,120,57,32,52,41]),(.int .i64 (4)),(.int .i64 (0)),(.int .i64 (0)),(.int .i64 (0)),(.str [54,32]),(.slice (some (1527,0)) 1 (some 1)),(.bool false),(.slice none 0 (some 0)),(.slice none 0 (some 0)),(.slice none 0 (some 0)),(.slice none 0 (some 0)),(.int .i64 (4)),(.str [40,110,111,116,32,40,108,101,32,49,32,120,49,32,45,49,32,120,57,32,52,41,41]),(.int .i64 (5)),(.int .i64 (0)),(.int .i64 (0)),(.int .i64 (0)),(.str [45,49,118,48,32,49,118,49,32,51]),(.slice none 0 (some 0)),(.bool false),(.slice (some (2207,0)) 1 none),(.slice (some (2208,0)) 1 none),(.slice (some (2141,0)) 2 none),(.slice (some (2142,0)) 2 none),(.int .i64 (3)),(.str [40,108,101,32,49,32,120,49,32,45,49,32,120,57,32,51,41])],true,.sealed,none,true,none⟩),
 (2556,.row ⟨3,1,3,AB.fill .leaf 0 [(.int .i64 (5)),(.int .i64 (7)),(.int .i64 (8))],true,.own,none,true,none⟩),
 (2573,.row ⟨68,13,130,AB.fill .leaf 0 [(.int .i64 (0)),(.int .i64 (0)),(.int .i64 (0)),(.int .i64 (0)),(.str []),(.slice none 0 (some 0)),(.bool false),(.slice none 0 (some 0)),(.slice none 0 (some 0)),(.slice none 0 (some 0)),(.slice none 0 (some 0)),(.int .i64 (1)),(.str [116,114,117,101]),(.int .i64 (1)),(.int .i64 (0)),(.int .i64 (0)),(.int .i64 (0)),(.str []),(.slice none 0 (some 0)),(.bool false),(.slice none 0 (some 0)),(.slice none 0 (some 0)),(.slice none 0 (some 0)),(.slice none 0 (some 0)),(.int .i64 (1)),(.str [102,97,108,115,101]),(.int .i64 (7)),(.int .i64 (2)),(.int .i64 (1)),(.int .i64 (-1)),(.str []),(.slice none 0 (some 0)),(.bool false),(.slice none 0 (some 0)),(.slice none 0 (some 0)),(.slice none 0 (some 0)),(.slice none 0 (some 0)),(.int .i64 (2)),(.str [40,105,110,116,63,32,120,49,41]),(.int .i64 (7)),(.int .i64 (4)),(.int .i64 (1)),(.int .i64 (-1)),(.str []),(.slice none 0 (some 0)),(.bool false),(.slice none 0 (some 0)),(.slice none 0 (some 0)),(.slice none 0 (some 0)),(.slice none 0 (some 0)),(.int .i64 (2)),(.str [40,100,105,99,116,63,32,120,49,41]),(.int .i64 (8)),(.int .i64 (0)),(.int .i64 (1)),(.int .i64 (3)),(.str []),(.slice none 0 (some 0)),(.bool false),(.slice none 0 (some 0)),(.slice none 0 (some 0)),(.slice none 0 (some 0)),(.slice none 0 (some 0)),(.int .i64 (3)),(.str [40,104,97,115,32,120,49,32,34,97,34,41]),(.int .i64 (7)),(.int .i64 (2)),(.int .i64 (0)),(.int .i64 (-1)),(.str []),(.slice none 0 (some 0)),(.bool false),(.slice none 0 (some 0)),(.slice none 0 (some 0)),(.slice none 0 (some 0)),(.slice none 0 (some 0)),(.int .i64 (2)),(.str [40,105,110,116,63,32,120,57,41]),(.int .i64 (5)),(.int .i64 (0)),(.int .i64 (0)),(.int .i64 (0)),(.str [45,49,118,48,32,49,118,49,32,52]),(.slice none 0 (some 0)),(.bool false),(.slice (some (1214,0)) 1 none),(.slice (some (1215,0)) 1 none),(.slice (some (1255,0)) 2 none),(.slice (some (1256,0)) 2 none),(.int .i64 (3)),(.str [40,108,101,32,49,32,120,49,32,45,49,32,120,57,32,52,41]),(.int .i64 (4)),(.int .i64 (0)),(.int .i64 (0)),(.int .i64 (0)),(.str [54,32]),(.slice (some (1527,0)) 1 (some 1)),(.bool false),(.slice none 0 (some 0)),(.slice none 0 (some 0)),(.slice none 0 (some 0)),(.slice none 0 (some 0)),(.int .i64 (4)),(.str [40,110,111,116,32,40,108,101,32,49,32,120,49,32,45,49,32,120,57,32,52,41,41]),(.int .i64 (5)),(.int .i64 (0)),(.int .i64 (0)),(.int .i64 (0)),(.str [45,49,118,48,32,49,118,49,32,51]),(.slice none 0 (some 0)),(.bool false),(.slice (some (2207,0)) 1 none),(.slice (some (2208,0)) 1 none),(.slice (some (2141,0)) 2 none),(.slice (some (2142,0)) 2 none),(.int .i64 (3)),(.str [40,108,101,32,49,32,120,49,32,45,49,32,120,57,32,51,41]),(.int .i64 (2)),(.int .i64 (0)),(.int .i64 (0)),(.int .i64 (0)),(.str [53,32,55,32,56,32]),(.slice (some (2556,0)) 3 none),(.bool false),(.slice none 0 (some 0)),(.slice none 0 (some 0)),(.slice none 0 (some 0)),(.slice none 0 (some 0)),(.int .i64 (10)),(.str [40,97,110,100,32,40,105,110,116,63,32,120,57,41,32,40,108,101,32,49,32,120,49,32,45,49,32,120,57,32,51,41,32,40,110,111,116,32,40,108,101,32,49,32,120,49,32,45,49,32,120,57,32,52,41,41,41])],true,.own,(some 2531),true,none⟩)],[162,190]⟩
def fE:Do:=Ou fo.at dE
end
end Go.Proofs.YtfgmceookgelcaaGreatDoor.Am
