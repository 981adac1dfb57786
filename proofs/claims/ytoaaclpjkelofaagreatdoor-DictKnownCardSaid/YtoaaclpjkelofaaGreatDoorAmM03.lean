/- The operations of the model, by their shapes; conditions: none. -/
import Derived.LaidEql
import Derived.Test.YtoaaclpjkelofaaGreatDoorAmM02
import Derived.OrdersIn
import Derived.RangeFuncLeaves
import Derived.Test.YtoaaclpjkelofaaGreatDoorAmM01
set_option linter.unusedVariables false
set_option linter.unusedSimpArgs false
namespace Go.Proofs.YtoaaclpjkelofaaGreatDoor.Am
open Go
noncomputable section
def Kk(sh:Sh)(aS:List AV)(s:AD):Option (AV×AD):=
 match sh with
 | .p1 f=>(match aS with | a::_=>Dx s (f a) | []=>none)
 | .p2 f=>(match aS with | a::b::_=>Dx s (f a b) | _=>none)
 | .p f=>Dx s (f aS)
 | .r1 f=>(match aS with | a::_=>Dx s (f s a) | []=>none)
 | .r f=>Dx s (f s aS)
 | .mk f=>S7 s (f aS)
 | .e f=>f s aS
 | .call _ | .callv=>none
section
variable{P:Program}{ρ ρ1 ρ2:A5}{s s1 s2:AD}{w w1 w2:World}
theorem B7{x:Option AV}{v:AV}(h:Dx s x=some (v,s1)):x=some v∧s1=s:=by
 cases x with
 | none=>cases h
 | some u=>injection h with h;injection h with h1 h2;exact⟨by rw[h1],h2.symm⟩
theorem VJ{x:Option (AI×Made)}{v:AV}(h:S7 s x=some (v,s1)):∃o m,x=some (o,m)∧v=m.val s.next∧s1=newObj s o:=by
 cases x with
 | none=>cases h
 | some u=>injection h with h;injection h with h1 h2;exact⟨u.1,u.2,rfl,h1.symm,h2.symm⟩
theorem Ge{x:Option AD}{v:AV}(h:Xz x=some (v,s1)):x=some s1∧v=Bo:=by
 cases x with
 | none=>cases h
 | some u=>injection h with h;injection h with h1 h2;exact⟨by rw[h2],h1.symm⟩
theorem Ig{f:AV→Option AV}{a v:AV}(h:Kk (.p1 f) [a] s=some (v,s1)):f a=some v∧s1=s:=B7 h
theorem Vf{f:AV→AV→Option AV}{a b v:AV}(h:Kk (.p2 f) [a,b] s=some (v,s1)):f a b=some v∧s1=s:=B7 h
theorem Nv{f:List AV→Option AV}{aS:List AV}{v:AV}(h:Kk (.p f) aS s=some (v,s1)):f aS=some v∧s1=s:=B7 h
theorem Vg{f:AD→AV→Option AV}{a v:AV}(h:Kk (.r1 f) [a] s=some (v,s1)):f s a=some v∧s1=s:=B7 h
theorem PW{f:AD→List AV→Option AV}{aS:List AV}{v:AV}(h:Kk (.r f) aS s=some (v,s1)):f s aS=some v∧s1=s:=B7 h
theorem Kl{f:List AV→Option (AI×Made)}{aS:List AV}{v:AV}(h:Kk (.mk f) aS s=some (v,s1)):∃o m,f aS=some (o,m)∧v=m.val s.next∧s1=newObj s o:=VJ h
theorem iO{f:AD→List AV→Option (AV×AD)}{aS:List AV}{v:AV}(h:Kk (.e f) aS s=some (v,s1)):f s aS=some (v,s1):=h
def B9(P:Program)(ρ:A5)(s:AD)(w:World)(sem:Sem Next)(v:AV)(s':AD):Prop:=
 ∃v' w' ρ',(sem.run P w=.ok (.value v') w'∨(sem.run P w=.ok .skip w'∧v'=undef))∧AM ρ' v v'∧As P ρ' s' w'∧Fr ρ s w ρ' s' w'
theorem B9.pure(h:As P ρ s w){sem:Sem Value}{v:AV}(hr:∃v',sem.run P w=.ok v' w∧AM ρ v v'):B9 P ρ s w (do Pure.pure (Next.value (← sem))) v s:=by
 obtain⟨v',h1,h2⟩:=hr
 exact⟨v',w,ρ,.inl (by simp[h1]),h2,h,Fr.refl _ _ _⟩
theorem B9.eff{sem:Sem Value}{v:AV}(hr:Vw P ρ s w sem v s1):B9 P ρ s w (do Pure.pure (Next.value (← sem))) v s1:=by
 obtain⟨v',w',ρ',h1,h2,h3,h4⟩:=hr
 exact⟨v',w',ρ',.inl (by simp[h1]),h2,h3,h4⟩
theorem B9.new{sem:Sem Value}{o:AI}{m:Made}(hr:Oa P ρ s w sem o m):B9 P ρ s w (do Pure.pure (Next.value (← sem))) (m.val s.next) (newObj s o):=by
 obtain⟨v',w',ρ',h1,h2,h3,h4⟩:=hr
 exact⟨v',w',ρ',.inl (by simp[h1]),h2,h3,h4⟩
theorem B9.unit{sem:Sem Unit}(hr:∃w',sem.run P w=.ok () w'∧As P ρ s1 w'∧Fr ρ s w ρ s1 w'):B9 P ρ s w (do sem;Pure.pure Next.skip) Bo s1:=by
 obtain⟨w',h1,h2,h3⟩:=hr
 exact⟨undef,w',ρ,.inr ⟨by simp[h1],rfl⟩,DC ρ,h2,h3⟩
theorem AJ.one{a:List AV}{x':Value}(h:AJ ρ a [x']):∃x,a=[x]∧AM ρ x x':=by
 cases h with
 | cons h hs=>cases hs;exact⟨_,rfl,h⟩
theorem AJ.two{a:List AV}{x' y':Value}(h:AJ ρ a [x',y']):∃x y,a=[x,y]∧AM ρ x x'∧AM ρ y y':=by
 cases h with
 | cons h hs=>obtain⟨y,rfl,hy⟩:=hs.one;exact⟨_,y,rfl,h,hy⟩
theorem AJ.three{a:List AV}{x' y' z':Value}(h:AJ ρ a [x',y',z']):∃x y z,a=[x,y,z]∧AM ρ x x'∧AM ρ y y'∧AM ρ z z':=by
 cases h with
 | cons h hs=>obtain⟨y,z,rfl,hy,hz⟩:=hs.two;exact⟨_,y,z,rfl,h,hy,hz⟩
theorem Pk{ps:Array (Nat×Operand)}{ev:Operand→Value}{aS:List AV}(h:AJ ρ aS ((ps.toList.map (·.2)).map ev)):
    (zipIdx (ps.toList.map (·.1)) aS).map (·.1)=(ps.map fun(p:Nat×Operand)=>(p.1,ev p.2)).toList.map (·.1) ∧
      AJ ρ ((zipIdx (ps.toList.map (·.1)) aS).map (·.2)) ((ps.map fun(p:Nat×Operand)=>(p.1,ev p.2)).toList.map (·.2)):=by
  have hlen:=h.length
  simp only[tz]at hlen
  unfold zipIdx
  constructor
  · rw [List.map_fst_zip]
    · simp[Function.comp_def]
    · simp[hlen]
  · rw [List.map_snd_zip]
    · simpa[Function.comp_def]using h
    · simp[hlen]
theorem OW            (hI : As  P ρ s w) {t : TypeId} {x : Operand} {lo hi mx : Option Operand} {ev : Operand → Value} {aS : List AV} {v : AV}
    (h:AJ ρ aS (([x]++lo.toList++hi.toList++mx.toList).map ev)) (hs:Bn P t lo.isSome hi.isSome mx.isSome s aS=some v):
    ∃v',(Instr.sliceAt t (ev x) (lo.map ev) (hi.map ev) (mx.map ev)).run P w=.ok v' w∧AM ρ v v':=by
  cases lo with
  | none =>
    cases hi with
    | none =>
      cases mx with
      | none=>obtain⟨x,rfl,hx⟩:=AJ.one h;exact E3 hI (show Bl P s t _ none none none=some v from hs) hx .none .none .none
      | some m=>obtain⟨x,y,rfl,hx,hy⟩:=AJ.two h;simp[Bn]at hs
    | some hh =>
      cases mx with
      | none=>obtain⟨x,y,rfl,hx,hy⟩:=AJ.two h;exact E3 hI (show Bl P s t _ none (some y) none=some v from hs) hx .none (.some hy) .none
      | some m=>obtain⟨x,y,z,rfl,hx,hy,hz⟩:=AJ.three h;exact E3 hI (show Bl P s t _ none (some y) (some z)=some v from hs) hx .none (.some hy) (.some hz)
  | some l =>
    cases hi with
    | none =>
      cases mx with
      | none=>obtain⟨x,y,rfl,hx,hy⟩:=AJ.two h;exact E3 hI (show Bl P s t _ (some y) none none=some v from hs) hx (.some hy) .none .none
      | some m=>obtain⟨x,y,z,rfl,hx,hy,hz⟩:=AJ.three h;simp[Bn]at hs
    | some hh =>
      cases mx with
      | none=>obtain⟨x,y,z,rfl,hx,hy,hz⟩:=AJ.three h;exact E3 hI (show Bl P s t _ (some y) (some z) none=some v from hs) hx (.some hy) (.some hz) .none
      | some m =>
        cases h with
        | cons hx h =>
          obtain⟨y,z,u,rfl,hy,hz,hu⟩:=AJ.three h
          exact E3 hI (show Bl P s t _ (some y) (some z) (some u)=some v from hs) hx (.some hy) (.some hz) (.some hu)
theorem g0{op:BinOp}{t:TypeId}{x y:Operand}{neg:Bool}(h:gz P op t x y=some neg):op=bif neg then .neq else .eql:=by
 unfold gz at h
 split at h
 ·cases hb:(G0 x && G0 y && Gz P t)with
  | true=>rw[hb]at h;injection h with h;subst h;rfl
  | false=>rw[hb]at h;cases h
 ·cases hb:(G0 x && G0 y && Gz P t)with
  | true=>rw[hb]at h;injection h with h;subst h;rfl
  | false=>rw[hb]at h;cases h
 ·cases h
theorem NZ{i:Nat}(h:GW s i=true):∃r,s.heap.get i=some (.row r)∧r.mode=.own∧r.par=none:=by
  unfold GW at h
  split at h
  · rename_i r hr
    rw[Bool.and_eq_true]at h
    refine⟨r,Ap hr,?_,?_⟩
    · cases hm:r.mode with
      | own=>rfl
      | _=>rw[hm]at h;cases h.1
    · cases hp:r.par with
      | none=>rfl
      | some _=>rw[hp]at h;cases h.2
  · cases h
theorem ZH        (h : As  P ρ s w) {neg : Bool} {t : TypeId} {x y v : AV} {x' y' : Value} (hv : GX     P s neg t x y = some v) (hx : AM   ρ x x') (hy : AM   ρ y y') (ox oy : Operand) :
    ∃v',(do eqGuard (bif neg then .neq else .eql) t ox oy x' y';Go.binOp (bif neg then .neq else .eql) t x' y').run P w=.ok v' w∧AM ρ v v':=by
  unfold GX at hv
  split at hv
  · rename_i i o j q
    obtain⟨hg,hv⟩:=AA hv
    rw[Bool.and_eq_true,Bool.and_eq_true]at hg
    obtain⟨⟨h1,h2⟩,h3⟩:=hg
    injection hv with hv
    subst hv
    obtain⟨ri,i1,i2,i3⟩:=NZ h2
    obtain⟨rj,j1,j2,j3⟩:=NZ h3
    unfold VD at h1
    split at h1<;>first | (cases h1;done) | skip
    rename_i te ht
    split at h1<;>first | (cases h1;done) | skip
    rename_i ji hji
    have hsz:ji.size≠0:=fun e=>by rw[e]at h1;cases h1
    cases hx with
    | @ptr _ _ rbi hi =>
    cases hy with
    | @ptr _ _ rbj hj =>
    have oi:DK P ρ w (.row ri) rbi:=h.obj i _ rbi i1 hi
    have oj:DK P ρ w (.row rj) rbj:=h.obj j _ rbj j1 hj
    have oi:BF ρ w ri rbi:=oi
    have oj:BF ρ w rj rbj:=oj
    obtain⟨ci,hi1,_⟩:=oi.own (by rw[i2];intro e;cases e)
    obtain⟨cj,hj1,_⟩:=oj.own (by rw[j2];intro e;cases e)
    have core:∃b:Bool,b=(Nat.beq i j && Nat.beq o q)∧(Op.equal t (.pointer (some ⟨rbi.b,rbi.off+o,none⟩)) (.pointer (some ⟨rbj.b,rbj.off+q,none⟩))).run P w=.ok b w:=by
      by_cases e:i=j∧o=q
      · obtain⟨e1,e2⟩:=e
        subst e1 e2
        rw[hi]at hj
        injection hj with hj
        subst hj
        refine⟨true,by simp,?_⟩
        have hd:∀d:Nat,(Op.equalIn (d+1) t (.pointer (some ⟨rbi.b,rbi.off+o,none⟩)) (.pointer (some ⟨rbi.b,rbi.off+o,none⟩))).run P w=.ok true w:=fun d=>by
          simp[Op.equalIn,AH ht,sizeOf,typeInfo,hji,run_sameAddr_same]
        exact hd 9999
      · have hb:(Nat.beq i j && Nat.beq o q)=false:=by
          cases hb:(Nat.beq i j && Nat.beq o q)with
          | false=>rfl
          | true =>
            rw[Bool.and_eq_true]at hb
            exact absurd ⟨tM hb.1,tM hb.2⟩ e
        have hne:(⟨rbi.b,rbi.off+o,none⟩:Addr)≠⟨rbj.b,rbj.off+q,none⟩:=fun ea=>by
          injection ea with e1 e2
          by_cases eij:i=j
          · subst eij
            rw[hi]at hj
            injection hj with hj
            subst hj
            exact e ⟨rfl,by omega⟩
          · have := (h.sep i j _ _ rbi rbj eij i1 j1 hi hj e1 (by show B8    rj.mode = true; rw [j2]; rfl)).1
            have this:rj.par=some i:=this
            rw[j3]at this
            cases this
        refine⟨false,hb.symm,?_⟩
        have hd:∀d:Nat,(Op.equalIn (d+1) t (.pointer (some ⟨rbi.b,rbi.off+o,none⟩)) (.pointer (some ⟨rbj.b,rbj.off+q,none⟩))).run P w=.ok false w:=fun d=>by
          simp[Op.equalIn,AH ht,sizeOf,typeInfo,hji,hsz,run_sameAddr_other w hne hi1 hj1]
        exact hd 9999
    obtain⟨b,hb,hrun⟩:=core
    rw[← hb]
    refine⟨.bool (b != neg),?_,.bool _⟩
    rw[Sem.run_bind,FB (by rfl)]
    simp only[Result.andThen_ok]
    cases neg with
    | false =>
      have:Go.binOp .eql t (.pointer (some ⟨rbi.b,rbi.off+o,none⟩)) (.pointer (some ⟨rbj.b,rbj.off+q,none⟩))=(do pure (.bool (← Op.equal t _ _)):Sem Value):=rfl
      rw[show(bif false then BinOp.neq else BinOp.eql)=.eql from rfl,this,Sem.run_bind,hrun]
      cases b<;>rfl
    | true =>
      have:Go.binOp .neq t (.pointer (some ⟨rbi.b,rbi.off+o,none⟩)) (.pointer (some ⟨rbj.b,rbj.off+q,none⟩))=(do pure (.bool (!(← Op.equal t _ _))):Sem Value):=rfl
      rw[show(bif true then BinOp.neq else BinOp.eql)=.neq from rfl,this,Sem.run_bind,hrun]
      cases b<;>rfl
  · exact V1 hv hx hy ox oy
theorem nT    (h : As  P ρ s w) (hf : ρ s.next = none) {o : Oper} {sh : Sh} {xs : List Operand} {ev : Operand → Value} (hev : ∀ f, ev (.func f) = .func (.func f) #[] #[]) {aS : List AV} {v : AV} (hsh : Az      P o.op = some (sh, xs)) (has : AJ    ρ aS (xs.map ev))
    (hr:Kk sh aS s=some (v,s1)):B9 P ρ s w (execOp ev o) v s1:=by
  cases ho:o.op<;>rw[ho]at hsh<;>first | (simp[Az]at hsh;done) | skip
  case move x =>
    injection hsh with hsh;injection hsh with h1 h2;subst h1;subst h2
    obtain⟨a,rfl,ha⟩:=AJ.one has
    obtain⟨hv,rfl⟩:=Ig hr
    injection hv with hv;subst hv
    exact⟨_,w,ρ,.inl (by simp[execOp,ho]),ha,h,Fr.refl _ _ _⟩
  case assign x =>
    injection hsh with hsh;injection hsh with h1 h2;subst h1;subst h2
    obtain⟨a,rfl,ha⟩:=AJ.one has
    obtain⟨hv,rfl⟩:=Ig hr
    injection hv with hv;subst hv
    exact⟨_,w,ρ,.inl (by simp[execOp,ho]),ha,h,Fr.refl _ _ _⟩
  case pick c a b =>
    injection hsh with hsh;injection hsh with h1 h2;subst h1;subst h2
    obtain⟨x,y,z,rfl,hx,hy,hz⟩:=AJ.three has
    obtain⟨hv,rfl⟩:=Nv hr
    simp only[Rt,Ru]at hv
    split at hv<;>first | (cases hv;done) | skip
    · injection hv with hv;subst hv
      generalize hc:ev c=c' at hx
      cases hx
      exact⟨_,w,ρ,.inl (by simp[execOp,ho,hc,asBool]),hy,h,Fr.refl _ _ _⟩
    · injection hv with hv;subst hv
      generalize hc:ev c=c' at hx
      cases hx
      exact⟨_,w,ρ,.inl (by simp[execOp,ho,hc,asBool]),hz,h,Fr.refl _ _ _⟩
  case build t ps =>
    injection hsh with hsh;injection hsh with h1 h2;subst h1;subst h2
    obtain⟨hv,rfl⟩:=Nv hr
    obtain⟨z1,z2⟩:=Pk has
    simp only[execOp,ho]
    exact B9.pure h (Yi hv z1 z2 w)
  case nilCheck x =>
    injection hsh with hsh;injection hsh with h1 h2;subst h1;subst h2
    obtain⟨a,rfl,ha⟩:=AJ.one has
    obtain⟨hv,rfl⟩:=Ig hr
    obtain⟨v',e1,e2⟩:=RG (P:=P) (w:=w) hv ha ev o x ho rfl
    exact⟨v',w,ρ,.inl e1,e2,h,Fr.refl _ _ _⟩
  case binOp op t x y f =>
    simp only[Az]at hsh
    split at hsh
    · rename_i neg hp
      injection hsh with hsh;injection hsh with h1 h2;subst h1;subst h2
      obtain⟨a,b,rfl,ha,hb⟩:=AJ.two has
      obtain⟨hv,rfl⟩:=PW hr
      simp only[execOp,ho]
      have hop:op=bif neg then .neq else .eql:=g0 hp
      subst hop
      exact B9.pure h (ZH h hv ha hb _ _)
    · injection hsh with hsh;injection hsh with h1 h2;subst h1;subst h2
      obtain⟨a,b,rfl,ha,hb⟩:=AJ.two has
      obtain⟨hv,rfl⟩:=Vf hr
      simp only[execOp,ho]
      exact B9.pure h (V1 hv ha hb _ _)
  case unOp op t x =>
    injection hsh with hsh;injection hsh with h1 h2;subst h1;subst h2
    obtain⟨a,rfl,ha⟩:=AJ.one has
    obtain⟨hv,rfl⟩:=Ig hr
    simp only[execOp,ho]
    exact B9.pure h (p6 hv ha)
  case makeFunc fn first captured =>
    simp only[Az]at hsh
    split at hsh<;>first | (cases hsh;done) | skip
    rename_i f
    injection hsh with hsh;injection hsh with h1 h2;subst h1;subst h2
    obtain⟨hv,rfl⟩:=Nv hr
    injection hv with hv;subst hv
    rw[List.map_append]at has
    refine⟨.func (.func f) (first.map ev) (captured.map ev),w,ρ,.inl (by simp[execOp,ho,Instr.makeFunc]),.func ?_ ?_,h,Fr.refl _ _ _⟩
    · have:=has.take first.size
      simpa[List.take_left']using this
    · have:=has.drop first.size
      simpa[List.drop_left']using this
  case fieldAddr t x f =>
    injection hsh with hsh;injection hsh with h1 h2;subst h1;subst h2
    obtain⟨a,rfl,ha⟩:=AJ.one has
    obtain⟨hv,rfl⟩:=Ig hr
    simp only[execOp,ho]
    exact B9.pure h (OO hv ha)
  case field t x f =>
    injection hsh with hsh;injection hsh with h1 h2;subst h1;subst h2
    obtain⟨a,rfl,ha⟩:=AJ.one has
    obtain⟨hv,rfl⟩:=Ig hr
    simp only[execOp,ho]
    exact B9.pure h (Ys hv ha)
  case indexAddr t x i =>
    injection hsh with hsh;injection hsh with h1 h2;subst h1;subst h2
    obtain⟨a,b,rfl,ha,hb⟩:=AJ.two has
    obtain⟨hv,rfl⟩:=Vf hr
    simp only[execOp,ho]
    exact B9.pure h (OQ hv ha hb)
  case index t x i =>
    injection hsh with hsh;injection hsh with h1 h2;subst h1;subst h2
    obtain⟨a,b,rfl,ha,hb⟩:=AJ.two has
    obtain⟨hv,rfl⟩:=Vf hr
    simp only[execOp,ho]
    exact B9.pure h (Yx hv ha hb)
  case extract t i =>
    injection hsh with hsh;injection hsh with h1 h2;subst h1;subst h2
    obtain⟨a,rfl,ha⟩:=AJ.one has
    obtain⟨hv,rfl⟩:=Ig hr
    simp only[execOp,ho]
    exact B9.pure h (Sn hv ha)
  case load t a =>
    injection hsh with hsh;injection hsh with h1 h2;subst h1;subst h2
    obtain⟨a,rfl,ha⟩:=AJ.one has
    obtain⟨hv,rfl⟩:=Vg hr
    simp only[execOp,ho]
    obtain⟨v',e1,e2,_⟩:=NH h hv ha
    exact B9.pure h ⟨v',e1,e2⟩
  case lookup t m k ok =>
    obtain⟨hmo,hsh⟩:=AA hsh
    injection hsh with hsh;injection hsh with h1 h2;subst h1;subst h2
    obtain⟨a,b,rfl,ha,hb⟩:=AJ.two has
    obtain⟨hv,rfl⟩:=PW hr
    simp only[execOp,ho]
    exact B9.pure h (VI h hmo hv ha hb)
  case convert src dst x =>
    injection hsh with hsh;injection hsh with h1 h2;subst h1;subst h2
    obtain⟨a,rfl,ha⟩:=AJ.one has
    obtain⟨hv,rfl⟩:=Vg hr
    simp only[execOp,ho]
    exact B9.pure h (en h hv ha)
  case slice t x lo hi mx =>
    injection hsh with hsh;injection hsh with h1 h2;subst h1;subst h2
    obtain⟨hv,rfl⟩:=PW hr
    simp only[execOp,ho]
    exact B9.pure h (OW h has hv)
  case alloc e =>
    injection hsh with hsh;injection hsh with h1 h2;subst h1;subst h2
    cases has
    obtain⟨ob,m,hm,rfl,rfl⟩:=Kl hr
    simp only[execOp,ho]
    exact B9.new (YZ h hf hm)
  case box e x =>
    injection hsh with hsh;injection hsh with h1 h2;subst h1;subst h2
    obtain⟨a,rfl,ha⟩:=AJ.one has
    obtain⟨ob,m,hm,rfl,rfl⟩:=Kl hr
    simp only[execOp,ho]
    exact B9.new (jK h hf hm ha)
  case buildSlice t len ps =>
    injection hsh with hsh;injection hsh with h1 h2;subst h1;subst h2
    obtain⟨ob,m,hm,rfl,rfl⟩:=Kl hr
    simp only[tH]at hm
    obtain⟨r,hr1,hm⟩:=hm
    injection hm with hm;injection hm with h1 h2;subst h1;subst h2
    obtain⟨z1,z2⟩:=Pk has
    simp only[execOp,ho]
    exact B9.new (Rl h hf hr1 z1 z2)
  case makeMap t r =>
    cases r with
    | some _=>simp[Az]at hsh
    | none =>
      obtain⟨hmo,hsh⟩:=AA hsh
      injection hsh with hsh;injection hsh with h1 h2;subst h1;subst h2
      cases has
      obtain⟨ob,m,hm,rfl,rfl⟩:=Kl hr
      simp only[tH]at hm
      obtain⟨kt,hkt,hm⟩:=hm
      injection hm with hm;injection hm with h1 h2;subst h1;subst h2
      simp only[execOp,ho]
      exact B9.new (VK h hf t kt)
  case makeSlice t l c =>
    injection hsh with hsh;injection hsh with h1 h2;subst h1;subst h2
    obtain⟨a,b,rfl,ha,hb⟩:=AJ.two has
    obtain⟨ob,m,hm,rfl,rfl⟩:=Kl hr
    simp only[execOp,ho]
    exact B9.new (OS h hf hm ha hb)
  case store t a x =>
    injection hsh with hsh;injection hsh with h1 h2;subst h1;subst h2
    obtain⟨a,b,rfl,ha,hb⟩:=AJ.two has
    obtain⟨hv,rfl⟩:=Ge (iO hr)
    simp only[execOp,ho]
    exact B9.unit (ZX h hv ha hb)
  case mapUpdate t m k x =>
    obtain⟨hmo,hsh⟩:=AA hsh
    injection hsh with hsh;injection hsh with h1 h2;subst h1;subst h2
    obtain⟨a,b,c,rfl,ha,hb,hc⟩:=AJ.three has
    obtain⟨hv,rfl⟩:=Ge (iO hr)
    simp only[execOp,ho]
    exact B9.unit (Im h hmo hv ha hb hc)
  case insert t m k x =>
    obtain⟨hmo,hsh⟩:=AA hsh
    injection hsh with hsh;injection hsh with h1 h2;subst h1;subst h2
    obtain⟨a,b,c,rfl,ha,hb,hc⟩:=AJ.three has
    obtain⟨hv,rfl⟩:=Ge (iO hr)
    simp only[execOp,ho]
    exact B9.unit (Im h hmo hv ha hb hc)
  case call c =>
    obtain⟨callee,args,argTypes⟩:=c
    have hx:∀b,callee=.builtin b→execOp ev o=builtin b argTypes o.type (args.map fun | .const _=>true | _=>false) (args.map ev):=by
      intro b hb
      subst hb
      simp only[execOp,ho,resolve]
      rfl
    simp only[Az]at hsh
    split at hsh
    · rename_i f
      split at hsh
      · rename_i e he
        injection hsh with hsh;injection hsh with h1 h2;subst h1;subst h2
        have hr:e s aS=some (v,s1):=hr
        have hx2:execOp ev o=(do let d ← Deferred.ofValue (ev (.func f)) (args.map ev);invoke d.target d.args):=by
          simp only[execOp,ho,resolve]
        obtain⟨v',w1,ρ1,g1,g2,g3,g4⟩:=fo h hf he hr has
        refine⟨v',w1,ρ1,.inl ?_,g2,g3,g4⟩
        have hl:(args.toList.map ev).toArray=args.map ev:=by rw[← Array.toList_map]
        rw[hl]at g1
        rw[hx2,hev,← g1]
        simp[Deferred.ofValue,invoke]
      · injection hsh with hsh;injection hsh with h1 h2;subst h1;subst h2;cases hr
    · injection hsh with hsh;injection hsh with h1 h2;subst h1;subst h2;cases hr
    · cases hsh
    · rename_i b
      rw[hx b rfl]
      have hargs:∀l:List Value,args.toList.map ev=l→args.map ev=l.toArray:=by
        intro l hl
        rw[← hl,← Array.toList_map]
      split at hsh<;>first | (cases hsh;done) | skip
      · split at hsh<;>first | (cases hsh;done) | skip
        rename_i t ht
        injection hsh with hsh;injection hsh with h1 h2;subst h1;subst h2
        obtain⟨hv,rfl⟩:=PW hr
        split at hv<;>first | (cases hv;done) | skip
        generalize hl:args.toList.map ev=l at has
        cases has with
        | cons hx1 hn =>
          cases hn
          rw[hargs _ hl]
          exact B9.pure h (kY h ht hv hx1)
      · split at hsh<;>first | (cases hsh;done) | skip
        rename_i t ht
        injection hsh with hsh;injection hsh with h1 h2;subst h1;subst h2
        obtain⟨hv,rfl⟩:=PW hr
        split at hv<;>first | (cases hv;done) | skip
        generalize hl:args.toList.map ev=l at has
        cases has with
        | cons hx1 hn =>
          cases hn
          rw[hargs _ hl]
          exact B9.pure h (jP h ht hv hx1)
      · injection hsh with hsh;injection hsh with h1 h2;subst h1;subst h2
        obtain⟨hv,rfl⟩:=Nv hr
        split at hv<;>first | (cases hv;done) | skip
        generalize hl:args.toList.map ev=l at has
        cases has with
        | cons hx1 hn =>
          rw[hargs _ hl]
          refine B9.pure h ?_
          obtain⟨r',e1,e2⟩:=HT (P:=P) (w:=w) hv hx1 hn
          exact⟨r',by simpa[Builtin.min_]using e1,e2⟩
      · injection hsh with hsh;injection hsh with h1 h2;subst h1;subst h2
        obtain⟨hv,rfl⟩:=Nv hr
        split at hv<;>first | (cases hv;done) | skip
        generalize hl:args.toList.map ev=l at has
        cases has with
        | cons hx1 hn =>
          rw[hargs _ hl]
          refine B9.pure h ?_
          obtain⟨r',e1,e2⟩:=HT (P:=P) (w:=w) hv hx1 hn
          exact⟨r',by simpa[Builtin.max_]using e1,e2⟩
      · injection hsh with hsh;injection hsh with h1 h2;subst h1;subst h2
        have hr:Ay P s argTypes.toList aS=some (v,s1):=hr
        have hr0:=hr
        unfold Ay at hr0
        split at hr0<;>first | (cases hr0;done) | skip
        rename_i st xt a len cap x hty _
        clear hr0
        generalize hl:args.toList.map ev=l at has
        obtain⟨a',x',rfl,hx1,hx2⟩:∃a' x',l=[a',x']∧AM ρ _ a'∧AM ρ _ x':=by
          cases has with
          | cons h1 h2=>cases h2 with | cons h2 h3=>cases h3;exact⟨_,_,rfl,h1,h2⟩
        rw[hargs _ hl,show argTypes=#[st,xt]from Array.ext' hty]
        rw[hty]at hr
        exact B9.eff (T6 h hf hr hx1 hx2)
      · injection hsh with hsh;injection hsh with h1 h2;subst h1;subst h2
        rw[hargs _ rfl]
        exact B9.eff (eq h hr (by simpa using has))
      · injection hsh with hsh;injection hsh with h1 h2;subst h1;subst h2
        obtain⟨hv,rfl⟩:=Nv hr
        split at hv<;>first | (cases hv;done) | skip
        generalize hl:args.toList.map ev=l at has
        cases has with
        | cons hx1 hn =>
          cases hn
          rw[hargs _ hl]
          exact B9.pure h (ez hv hx1)
      · injection hsh with hsh;injection hsh with h1 h2;subst h1;subst h2
        rw[hargs _ rfl]
        exact B9.eff (im h hr (by simpa using has))
      · injection hsh with hsh;injection hsh with h1 h2;subst h1;subst h2
        rw[hargs _ rfl]
        exact B9.eff (Yl h hr (by simpa using has))
      · split at hsh<;>first | (cases hsh;done) | skip
        rename_i t ht
        obtain⟨hmo,hsh⟩:=AA hsh
        injection hsh with hsh;injection hsh with h1 h2;subst h1;subst h2
        have hr:Xx (fun m k=>Xz (L5 P s t m k)) aS=some (v,s1):=hr
        unfold Xx at hr
        split at hr<;>first | (cases hr;done) | skip
        obtain⟨hv,rfl⟩:=Ge hr
        generalize hl:args.toList.map ev=l at has
        obtain⟨a',x',rfl,hx1,hx2⟩:∃a' x',l=[a',x']∧AM ρ _ a'∧AM ρ _ x':=by
          cases has with
          | cons h1 h2=>cases h2 with | cons h2 h3=>cases h3;exact⟨_,_,rfl,h1,h2⟩
        rw[hargs _ hl]
        obtain⟨w1,e1,e2,e3⟩:=Uq (ty:=o.type) h hmo ht hv hx1 hx2
        exact B9.eff ⟨undef,w1,ρ,e1,DC ρ,e2,e3⟩
end
def AD.sub(s s':AD):Prop:=∀i o,s.heap.get i=some o→s'.heap.get i=some o
section
variable{P:Program}{ρ ρ1 ρ2:A5}{s s1 s2:AD}{w w1 w2:World}
theorem AD.sub_new(h:s.heap.get s.next=none)(o:AI):s.sub (newObj s o):=fun i ob e=>by
 rw[Ai,if_neg]
 ·exact e
 ·intro q;subst q;rw[h]at e;cases e
theorem Cx(h:s.sub s2){i:Nat}{r:CG}(hr:rowAt s i=some r):rowAt s2 i=some r:=by
 have:=h i _ (Ap hr)
 simp[rowAt,this]
theorem IX(h:s.sub s2){i o n:Nat}{l:List AV}(hr:BG s i o n=some l):BG s2 i o n=some l:=by
 unfold BG at hr ⊢
 simp only[tH]at hr
 obtain⟨r,h1,h2⟩:=hr
 rw[Cx h h1]
 exact h2
theorem NG(h:s.sub s2){i o:Nat}{l:AV}(hr:B1 s i o=some l):B1 s2 i o=some l:=by
 unfold B1 at hr ⊢
 simp only[tH]at hr
 obtain⟨r,h1,h2⟩:=hr
 rw[Cx h h1]
 exact h2
theorem VH         (h : s.sub s2) {t : TypeId} {a v : AV} (hr : AG    P s t a = some v) : AG    P s2 t a = some v := by
  unfold AG at hr ⊢
  split at hr<;>first | (cases hr;done) | skip
  · simp only[tH]at hr ⊢
    obtain⟨r,h0,g,h1,h2⟩:=hr
    refine⟨r,?_,g,h1,?_⟩
    · unfold QZ at h0 ⊢
      simp only[tH]at h0 ⊢
      obtain⟨r',k1,k2⟩:=h0
      exact⟨r',Cx h k1,k2⟩
    · cases g with
      | true =>
        simp only[tH]at h2 ⊢
        obtain⟨n,h3,l,h4,h5⟩:=h2
        exact⟨n,h3,l,IX h h4,h5⟩
      | false=>exact NG h h2
  simp only[tH]at hr ⊢
  obtain⟨g,h1,h2⟩:=hr
  refine⟨g,h1,?_⟩
  cases g with
  | true =>
    simp only[tH]at h2 ⊢
    obtain⟨n,h3,l,h4,h5⟩:=h2
    exact⟨n,h3,l,IX h h4,h5⟩
  | false=>exact NG h h2
theorem RA           (h : s.sub s2) {t : TypeId} {m k v : AV} {ok : Bool} (hr : HQ      P s t m k ok = some v) : HQ      P s2 t m k ok = some v := by
  unfold HQ at hr ⊢
  split at hr<;>first | (cases hr;done) | skip
  obtain⟨hk,hg⟩:=AA hr
  clear hr
  rw[hk]
  simp only[AF,cond_true]
  simp only[tH]at hg ⊢
  obtain⟨es,h1,rest⟩:=hg
  refine⟨es,?_,rest⟩
  cases m with
  | map r =>
    cases r with
    | none=>exact h1
    | some i =>
      simp only at h1 ⊢
      unfold X9 at h1 ⊢
      split at h1<;>first | (cases h1;done) | skip
      all_goals
        rename_i hget
        rw[h i _ hget]
        exact h1
  | _=>cases h1
theorem Uo(h:s.sub s2){src dst:TypeId}{x v:AV}(hr:Ac P s src dst x=some v):Ac P s2 src dst x=some v:=by
  unfold Ac at hr ⊢
  split at hr<;>first | (cases hr;done) | skip
  · exact hr
  · exact hr
  · split at hr <;> first | (cases hr; done) | skip
    split at hr
    · exact hr
    · simp only[tH]at hr ⊢
      obtain⟨l,h1,rest⟩:=hr
      exact⟨l,IX h h1,rest⟩
  all_goals
    unfold Ac.seenPtr at hr ⊢
    split at hr<;>first | (cases hr;done) | skip
    · exact hr
    · simp only[tH]at hr ⊢
      obtain⟨r,h1,rest⟩:=hr
      exact⟨r,Cx h h1,rest⟩
theorem Ti          (h : s.sub s2) {t : TypeId} {x v : AV} {lo hi mx : Option AV} (hr : Bl     P s t x lo hi mx = some v) : Bl     P s2 t x lo hi mx = some v := by
  unfold Bl at hr ⊢
  split at hr<;>first | (cases hr;done) | skip
  · exact hr
  · rename_i a len cap
    split at hr<;>first | (cases hr;done) | skip
    simp only[tH]at hr ⊢
    obtain⟨n,h1,far,h2,rest⟩:=hr
    refine⟨n,h1,far,?_,rest⟩
    cases cap with
    | some c=>exact h2
    | none =>
      cases a with
      | none=>exact h2
      | some io =>
        obtain⟨i,o⟩:=io
        simp only[tH]at h2 ⊢
        obtain⟨r,h3,h4⟩:=h2
        exact⟨r,Cx h h3,h4⟩
  · exact hr
theorem Ls(h:s.sub s2){t:TypeId}{lo hi mx:Bool}{aS:List AV}{v:AV}(hr:Bn P t lo hi mx s aS=some v):Bn P t lo hi mx s2 aS=some v:=by
 unfold Bn at hr ⊢
 split at hr<;>first | (cases hr;done) | skip
 all_goals
  split at hr<;>first | (cases hr;done) | exact Ti h hr
theorem Y4(h:s.sub s2){t:TypeId}{x v:AV}(hr:Bb P s t x=some v):Bb P s2 t x=some v:=by
  unfold Bb at hr ⊢
  split at hr<;>first | (cases hr;done) | skip
  · exact hr
  · exact hr
  · exact hr
  · split at hr <;> first | (cases hr; done) | skip
    split at hr<;>first | (cases hr;done) | skip
    all_goals
      rename_i hget
      rw[h _ _ hget]
      exact hr
theorem Yk(h:s.sub s2){t:TypeId}{x v:AV}(hr:Yj P s t x=some v):Yj P s2 t x=some v:=by
  unfold Yj at hr ⊢
  split at hr<;>first | (cases hr;done) | skip
  split at hr<;>first | (cases hr;done) | skip
  split at hr
  · exact hr
  · split at hr <;> first | (cases hr; done) | skip
    simp only[tH]at hr ⊢
    obtain⟨n,h1,r,h2,h3⟩:=hr
    exact⟨n,h1,r,Cx h h2,h3⟩
theorem LZ(h:s.sub s2){i:Nat}(hr:GW s i=true):GW s2 i=true:=by
  unfold GW at hr ⊢
  split at hr
  · rename_i r hrow
    rw[Cx h hrow]
    exact hr
  · cases hr
theorem TO(h:s.sub s2){neg:Bool}{t:TypeId}{x y v:AV}(hr:GX P s neg t x y=some v):GX P s2 neg t x y=some v:=by
 unfold GX at hr ⊢
 split at hr
 ·obtain⟨hg,hv⟩:=AA hr
  rw[Bool.and_eq_true,Bool.and_eq_true]at hg
  obtain⟨⟨h1,h2⟩,h3⟩:=hg
  rw[h1,LZ h h2,LZ h h3]
  exact hv
 ·exact hr
theorem TJ{α:Type}{f g:AV→Option α}(hm:∀a v,f a=some v→g a=some v){aS:List AV}{v:α}(h:one f aS=some v):one g aS=some v:=by
 unfold one at h ⊢
 split at h<;>first | (cases h;done) | exact hm _ _ h
theorem TI{α:Type}{f g:AV→AV→Option α}(hm:∀a b v,f a b=some v→g a b=some v){aS:List AV}{v:α}(h:Xx f aS=some v):Xx g aS=some v:=by
 unfold Xx at h ⊢
 split at h<;>first | (cases h;done) | exact hm _ _ _ h
theorem ZK(h:s.sub s2){o:Op}{sh:Sh}{xs:List Operand}{aS:List AV}{v:AV}(hsh:Az P o=some (sh,xs))(hr:Ei sh aS s=some v):Ei sh aS s2=some v:=by
 cases o<;>first | (simp[Az]at hsh;done) | skip
 case binOp op t x y f =>
  simp only[Az]at hsh
  split at hsh
  ·injection hsh with hsh;injection hsh with h1 h2;subst h1;exact TI (fun _ _ _=>TO h) hr
  ·injection hsh with hsh;injection hsh with h1 h2;subst h1;cases hr
 case load t a=>injection hsh with hsh;injection hsh with h1 h2;subst h1;exact TJ (fun _ _=>VH h) hr
 case lookup t m k ok=>obtain⟨_,hsh⟩:=AA hsh;injection hsh with hsh;injection hsh with h1 h2;subst h1;exact TI (fun _ _ _=>RA h) hr
 case convert src dst x=>injection hsh with hsh;injection hsh with h1 h2;subst h1;exact TJ (fun _ _=>Uo h) hr
 case slice t x lo hi mx=>injection hsh with hsh;injection hsh with h1 h2;subst h1;exact Ls h hr
 case call c =>
  obtain⟨callee,args,argTypes⟩:=c
  simp only[Az]at hsh
  split at hsh<;>first | (cases hsh;done) | (injection hsh with hsh;injection hsh with h1 h2;subst h1;cases hr;done) | (split at hsh<;>(injection hsh with hsh;injection hsh with h1 h2;subst h1;cases hr);done) | skip
  split at hsh<;>first | (cases hsh;done) | (injection hsh with hsh;injection hsh with h1 h2;subst h1;cases hr;done) | skip
  ·split at hsh<;>first | (cases hsh;done) | skip
   injection hsh with hsh;injection hsh with h1 h2;subst h1
   simp only[Ei]at hr ⊢
   split at hr<;>first | (cases hr;done) | exact Y4 h hr
  ·split at hsh<;>first | (cases hsh;done) | skip
   injection hsh with hsh;injection hsh with h1 h2;subst h1
   simp only[Ei]at hr ⊢
   split at hr<;>first | (cases hr;done) | exact Yk h hr
  ·split at hsh<;>first | (cases hsh;done) | skip
   obtain⟨_,hsh⟩:=AA hsh
   injection hsh with hsh;injection hsh with h1 h2;subst h1;cases hr
 case makeMap t r =>
  cases r with
  | some _=>cases hsh
  | none=>obtain⟨_,hsh⟩:=AA hsh;injection hsh with hsh;injection hsh with h1 h2;subst h1;cases hr
 case mapUpdate t m k x=>obtain⟨_,hsh⟩:=AA hsh;injection hsh with hsh;injection hsh with h1 h2;subst h1;cases hr
 case insert t m k x=>obtain⟨_,hsh⟩:=AA hsh;injection hsh with hsh;injection hsh with h1 h2;subst h1;cases hr
 case makeFunc fn first captured =>
  cases fn with
  | func f=>injection hsh with hsh;injection hsh with h1 h2;subst h1;cases hr
  | _=>cases hsh
 all_goals (injection hsh with hsh;injection hsh with h1 h2;subst h1;cases hr)
end
theorem RJ(l:List AV)(i:Nat):LV l i=l.getD i Bo:=by
  induction l generalizing i with
  | nil=>rfl
  | cons a l ih =>
    cases i with
    | zero=>rfl
    | succ i=>exact ih i
theorem Kd{l:List AV}{i:Nat}{v:AV}(h:l[i]? = some v):LV l i=v:=by rw[RJ];simp[h]
theorem Eb(v:AV)(l:List AV)(i:Nat):F4 v l i=l.set i v:=by
  induction l generalizing i with
  | nil=>rfl
  | cons a l ih =>
    cases i with
    | zero=>rfl
    | succ i=>exact congrArg (a::·) (ih i)
theorem Jn{v:AV}{l:List AV}{i:Nat}(h:i<l.length):LV (F4 v l i) i=v:=by
 rw[RJ,Eb];simp[h]
theorem Ff{v:AV}{l:List AV}{i j:Nat}(h:i≠j):LV (F4 v l j) i=LV l i:=by
 rw[RJ,RJ,Eb];simp[uU (Ne.symm h)]
theorem FW{vars:List Tmp}{t:Tmp}:∀ {j:Nat},Aq vars t=some j→vars[j]? = some t:=by
 induction vars with
 | nil=>intro j h;cases h
 | cons a l ih =>
  intro j h
  unfold Aq at h
  cases hb:Nat.beq a t with
  | true =>
   rw[hb]at h
   simp only[cond_true,Option.some.injEq]at h
   subst h
   rw[Ae hb]
   rfl
  | false =>
   rw[hb]at h
   simp only[cond_false,tH]at h
   obtain⟨i,h1,h2⟩:=h
   injection h2 with h2
   subst h2
   exact ih h1
theorem Cw{vars:List Tmp}{t:Tmp}{j:Nat}(h:Aq vars t=some j):j<vars.length:=by
 have:=FW h
 rcases tL j vars.length with h' | h'
 ·exact h'
 ·rw[tY h']at this;cases this
theorem HA{vars:List Tmp}{t u:Tmp}{j:Nat}(h:Aq vars t=some j)(k:Aq vars u=some j):t=u:=by
 have h1:=FW h
 have h2:=FW k
 rw[h1]at h2
 injection h2
mutual
theorem FA     : ∀ {a b : AV}, FT  a b = true → a = b := by
  intro a b h
  unfold FT at h
  split at h
  · simp at h;rw[h]
  · simp only[Bool.and_eq_true]at h;have:=CW h.1;subst this;have h2:=h.2;rw[GI]at h2;simp at h2;rw[h2]
  · rename_i x y
    have:∀x y:List Nat,CM x y=true→x=y:=by
      intro x
      induction x with
      | nil=>intro y h;cases y with | nil=>rfl | cons=>cases h
      | cons a x ih =>
        intro y h
        cases y with
        | nil=>cases h
        | cons b y =>
          unfold CM at h
          cases hb:Nat.beq a b with
          | true=>rw[hb]at h;rw[Ae hb,ih y h]
          | false=>rw[hb]at h;cases h
    rw[this _ _ h]
  · rfl
  · simp only[Bool.and_eq_true]at h;rw[Ae h.1,Ae h.2]
  · simp only[Bool.and_eq_true]at h;rw[Ae h.1,Ae h.2]
  · simp only[Bool.and_eq_true]at h;rw[Ae h.1,Ae h.2]
  · rw[Ae h]
  · simp only[Bool.and_eq_true]at h;rw[Ae h.1.1,Ae h.1.2,Ae h.2]
  · simp only[Bool.and_eq_true]at h;rw[Ae h.1.1.1,Ae h.1.1.2,Ae h.1.2,Ae h.2]
  · rfl
  · rw[Ae h]
  · simp only[Bool.and_eq_true]at h;rw[Ae h.1.1,FU h.1.2,FU h.2]
  · rfl
  · rfl
  · rw[Ae h]
  · rw[FU h]
  · rw[FU h]
  · cases h
theorem FU:∀ {a b:List AV},FT.eqAs a b=true→a=b:=by
 intro a b h
 unfold FT.eqAs at h
 split at h
 ·rfl
 ·simp only[Bool.and_eq_true]at h;rw[FA h.1,FU h.2]
 ·cases h
end
abbrev Bw:=Tmp→Option AV
def Bw.put(R:Bw)(d:Option Tmp)(v:AV):Bw:=match d with
 | none=>R
 | some d=>fun t=>if t=d then some v else R t
def TR(R:Bw):Operand→Option AV
 | .tmp t=>R t
 | .const v=>ofValue v
 | .global g=>some (.gptr g 0)
 | .func f=>some (.func f [] [])
def D7(R:Bw):List Operand→Option (List AV)
 | []=>some []
 | x::l=>(TR R x).bind fun a=>(D7 R l).bind fun r=>some (a::r)
def KA(ops:Array Oper)(R:Bw)(o:Oper):Option Bool:=match o.guard with
 | none=>some true
 | some (j,want)=>(ops[j]?).bind fun p=>p.dst.bind fun d=>(R d).bind fun x=>bif qB x then none else some (rZ want x)
def iy(F:DH)(sh:Sh)(aS:List AV)(s:AD):Option (AV×AD):=
 match sh with
 | .call f=>F.call f aS s
 | .callv=>(match aS with | a::l=>Gq F a l s | []=>none)
 | _=>Kk sh aS s
structure T4 where
 idx:Nat
 sh:Sh
 aS:List AV
 v:AV
 want:Bool
structure MM(P:Program)(F:DH)(ops:Array Oper)(nt:Nat)(R:Bw)(s:AD)(o:Oper)(sh:Sh)(want:Bool)(aS:List AV)(v:AV)(R1:Bw)(s1:AD):Prop where
 shape:∃xs,Az P o.op=some (sh,xs)∧D7 R xs=some aS
 wants:KA ops R o=some want
 put:R1=R.put o.dst v
 lt:∀d,o.dst=some d→d<nt
 yes:want=true→iy F sh aS s=some (v,s1)
 no:want=false→v=Bo∧s1=s
inductive Trace (P:Program) (F:DH) (ops:Array Oper) (nt:Nat) (b:Array Nat) (draw:Bool):List Nat→List T4→Bw→AD→Bw→AD→Prop
 | nil {rs:List T4} {R:Bw} {s:AD}:Trace P F ops nt b draw [] rs R s R s
 | cons {i:Nat} {l:List Nat} {rs:List T4} {R R1 R2:Bw} {s s1 s2:AD} {o:Oper} {sh:Sh} {want:Bool} {aS:List AV} {v:AV}
   (ho:ops[i]? = some o) (hs:MM P F ops nt R s o sh want aS v R1 s1)
   (ag:draw=true→sh.isEff=true→want=true→∀r∈rs,(b.getD i 0).testBit r.idx=false→r.want=true→Ei r.sh r.aS s1=some r.v)
   (hl:Trace P F ops nt b draw l (bif draw && sh.isRead then ⟨i,sh,aS,v,want⟩::rs else rs) R1 s1 R2 s2):Trace P F ops nt b draw (i::l) rs R s R2 s2
structure EQ(vars:List Tmp)(c:iz)(loc var:List AV)(R:Bw):Prop where
 vlen:var.length=vars.length
 bnd:∀t p,Eg c.map t=some (.loc p)→p<c.cnt
 keys:∀t x,Eg c.map t=some x→Aq vars t=none
 val:∀t x,Ej vars c t=some x→R t=some (Cc loc var (CF c.cnt x))
theorem Y6:∀ {m:List (Tmp×CX)}{t:Tmp}{x:CX},Eg m t=some x→(t,x)∈m:=by
 intro m
 induction m with
 | nil=>intro t x h;cases h
 | cons p m ih =>
  obtain⟨a,y⟩:=p
  intro t x h
  unfold Eg at h
  cases hb:Nat.beq a t with
  | true =>
   rw[hb]at h
   simp only[cond_true,Option.some.injEq]at h
   rw[Ae hb,h]
   exact tS
  | false =>
   rw[hb]at h
   exact tW _ (ih h)
theorem TF:∀ {m:List (Tmp×CX)}{j:Nat},Jm j m=true→∀t,(t,CX.var j) ∉ m:=by
 intro m
 induction m with
 | nil=>intro j h t hm;cases hm
 | cons p m ih =>
  obtain⟨a,y⟩:=p
  intro j h t hm
  simp only[Jm,Bool.and_eq_true,Bool.not_eq_true']at h
  cases hm with
  | head=>simp[isVar]at h
  | tail _ hm=>exact ih h.2 t hm
theorem D6(m:List (Tmp×CX))(d t:Tmp)(x:CX):Eg ((d,x)::m) t=if t=d then some x else Eg m t:=by
 simp only[Eg]
 by_cases e:t=d
 ·subst e;simp
 ·have:Nat.beq d t=false:=by
   cases hb:Nat.beq d t with
   | true=>exact absurd (Ae hb).symm e
   | false=>rfl
  rw[this,if_neg e,cond_false]
theorem Ez{loc var:List AV}{v:AV}{cnt:Nat}{x:CX}(h:∀p,x=.loc p→p<cnt):Cc (v::loc) var (CF (cnt+1) x)=Cc loc var (CF cnt x):=by
 cases x with
 | loc p =>
  have:=h p rfl
  simp only[CF,Cc]
  rw[show cnt+1 - 1 - p=(cnt - 1 - p)+1 from by omega]
  rfl
 | var j=>rfl
 | const v=>rfl
variable{vars:List Tmp}{c:iz}{loc var:List AV}{R:Bw}
theorem EQ.push(h:EQ vars c loc var R){d:Tmp}(v:AV)(hd:Aq vars d=none):EQ vars { map:=(d,.loc c.cnt)::c.map,cnt:=c.cnt+1 } (v::loc) var (R.put (some d) v):=by
  refine⟨h.vlen,?_,?_,?_⟩
  · intro t p hp
    rw[D6]at hp
    split at hp
    · injection hp with hp;injection hp with hp;subst hp;exact t6 _
    · exact um (h.bnd t p hp)
  · intro t x hx
    rw[D6]at hx
    split at hx
    · rename_i e;subst e;exact hd
    · exact h.keys t x hx
  · intro t x hx
    unfold Ej at hx
    simp only[D6]at hx
    by_cases e:t=d
    · subst e
      simp only[if_true,Option.some.injEq]at hx
      subst hx
      simp only[Bw.put,if_true,CF,Cc]
      rw[show c.cnt+1 - 1 - c.cnt=0 from by omega]
      rfl
    · simp only [if_neg e] at hx
      simp only[Bw.put,if_neg e]
      have hx':Ej vars c t=some x:=by unfold Ej;exact hx
      rw[h.val t x hx',Ez]
      intro p hp
      subst hp
      cases hl:Eg c.map t with
      | some y=>rw[hl]at hx;injection hx with hx;subst hx;exact h.bnd t p hl
      | none=>rw[hl]at hx;simp only[tH]at hx;obtain⟨j,_,hx⟩:=hx;cases hx
theorem Nx(h:EQ vars c loc var R){t:Tmp}{x:CX}(hx:Ej vars c t=some x):∀p,x=.loc p→p<c.cnt:=by
 intro p hp
 subst hp
 unfold Ej at hx
 cases hl:Eg c.map t with
 | some y=>rw[hl]at hx;injection hx with hx;subst hx;exact h.bnd t p hl
 | none=>rw[hl]at hx;simp only[tH]at hx;obtain⟨j,_,hx⟩:=hx;cases hx
theorem NU(h:EQ vars c loc var R){o:Operand}{x:CX}(hx:Eh vars c o=some x):∀p,x=.loc p→p<c.cnt:=by
 cases o with
 | tmp t=>exact Nx h hx
 | const v =>
  intro p hp
  subst hp
  simp only[Eh,tH]at hx
  obtain⟨a,_,hx⟩:=hx
  cases hx
 | global g=>intro p hp;subst hp;simp[Eh]at hx
 | func f=>intro p hp;subst hp;simp[Eh]at hx
theorem EQ.pushNone(h:EQ vars c loc var R)(v:AV):EQ vars { c with cnt:=c.cnt+1 } (v::loc) var R:=by
 refine⟨h.vlen,fun t p hp=>um (h.bnd t p hp),h.keys,?_⟩
 intro t x hx
 have hx':Ej vars c t=some x:=hx
 rw[h.val t x hx',Ez (Nx h hx')]
theorem EQ.set   (h : EQ   vars c loc var R) {d : Tmp} {j : Nat} (v : AV) (hd : Aq      vars d = some j) (hn : Jm      j c.map = true) : EQ   vars c loc (F4  v var j) (R.put (some d) v) := by
  refine⟨by rw[Eb,ub];exact h.vlen,h.bnd,h.keys,?_⟩
  intro t x hx
  have hj:j<var.length:=by rw[h.vlen];exact Cw hd
  by_cases e:t=d
  · subst e
    unfold Ej at hx
    cases hl:Eg c.map t with
    | some y=>have:=h.keys t y hl;rw[hd]at this;cases this
    | none =>
      rw[hl,hd]at hx
      injection hx with hx
      subst hx
      simp only[Bw.put,if_true,CF,Cc]
      rw[Jn hj]
  · simp only[Bw.put,if_neg e]
    rw[h.val t x hx]
    congr 1
    cases x with
    | loc p=>rfl
    | const v=>rfl
    | var i =>
      simp only[CF,Cc]
      rw[Ff]
      intro q
      subst q
      unfold Ej at hx
      cases hl:Eg c.map t with
      | some y=>rw[hl]at hx;injection hx with hx;subst hx;exact TF hn t (Y6 hl)
      | none =>
        rw[hl]at hx
        simp only[tH]at hx
        obtain⟨k,hk,hx⟩:=hx
        injection hx with hx
        injection hx with hx
        subst hx
        exact e (HA hk hd)
theorem EQ.alias(h:EQ vars c loc var R){d:Tmp}{o:Operand}{x:CX}(hx:Eh vars c o=some x)(hd:Aq vars d=none):
    EQ vars { c with map:=(d,x)::c.map } loc var (R.put (some d) (Cc loc var (CF c.cnt x))):=by
  refine⟨h.vlen,?_,?_,?_⟩
  · intro t p hp
    rw[D6]at hp
    split at hp
    · injection hp with hp;subst hp;exact NU h hx p rfl
    · exact h.bnd t p hp
  · intro t y hy
    rw[D6]at hy
    split at hy
    · rename_i e;subst e;exact hd
    · exact h.keys t y hy
  · intro t y hy
    unfold Ej at hy
    simp only[D6]at hy
    by_cases e:t=d
    · subst e
      simp only[if_true,Option.some.injEq]at hy
      subst hy
      simp only[Bw.put,if_true]
    · simp only [if_neg e] at hy
      simp only[Bw.put,if_neg e]
      exact h.val t y hy
theorem NX(h:EQ vars c loc var R){o:Operand}{x:CX}(hx:Eh vars c o=some x):TR R o=some (Cc loc var (CF c.cnt x)):=by
 cases o with
 | tmp t=>exact h.val t x hx
 | const v =>
  simp only[Eh,tH]at hx
  obtain⟨a,h1,h2⟩:=hx
  injection h2 with h2
  subst h2
  exact h1
 | global g=>injection hx with hx;subst hx;rfl
 | func f=>injection hx with hx;subst hx;rfl
theorem PI(h:EQ vars c loc var R):∀ {l:List Operand}{xs:List CX},Ib vars c l=some xs→D7 R l=some (DE loc var (xs.map (CF c.cnt)))
 | [],xs,hx=>by injection hx with hx;subst hx;rfl
 | o::l,xs,hx=>by
  simp only[Ib,tH]at hx
  obtain⟨a,h1,r,h2,h3⟩:=hx
  injection h3 with h3
  subst h3
  simp only[D7,NX h h1,PI h h2,Option.bind_some,ta]
  rfl
theorem lH{F:DH}{sh:Sh}{xs:List CX}{loc var:List AV}{s:AD}{p:AV×AD}(h:pn F sh xs loc var s=some p):iy F sh (DE loc var xs) s=some p:=by
 cases sh with
 | p1 f=>cases xs with
  | nil=>cases h
  | cons x l=>exact h
 | p2 f=>cases xs with
  | nil=>cases h
  | cons x l=>cases l with
   | nil=>cases h
   | cons y l=>exact h
 | p f=>exact h
 | r1 f=>cases xs with
  | nil=>cases h
  | cons x l=>exact h
 | r f=>exact h
 | mk f=>exact h
 | e f=>exact h
 | call f=>exact h
 | callv=>cases xs with
  | nil=>cases h
  | cons x l=>exact h
def Pz(cnt:Nat)(x:CX):Prop:=∀p,x=.loc p→p<cnt
structure Io(loc var:List AV)(cnt:Nat)(r:Nat×Gh)(q:T4):Prop where
 idx:r.1=q.idx
 sh:r.2.sh=q.sh
 aS:DE loc var (r.2.xs.map (CF cnt))=q.aS
 v:Cc loc var (CF cnt r.2.ans)=q.v
 want:BO loc var (F0 cnt r.2.guard)=q.want
 bx:∀x∈r.2.xs,Pz cnt x
 ba:∃p,r.2.ans=.loc p∧p<cnt
 bg:∀x b,r.2.guard=some (x,b)→Pz cnt x
inductive Fk (loc var:List AV) (cnt:Nat):List (Nat×Gh)→List T4→Prop
 | nil:Fk loc var cnt [] []
 | cons {r:Nat×Gh} {q:T4} {l:List (Nat×Gh)} {m:List T4} (h:Io loc var cnt r q) (hl:Fk loc var cnt l m):Fk loc var cnt (r::l) (q::m)
theorem KL{loc var:List AV}{v:AV}{cnt:Nat}:∀ {xs:List CX},(∀x∈xs,Pz cnt x)→DE (v::loc) var (xs.map (CF (cnt+1)))=DE loc var (xs.map (CF cnt))
 | [],_=>rfl
 | x::l,h=>by
  show Cc (v::loc) var (CF (cnt+1) x)::DE (v::loc) var (l.map (CF (cnt+1)))=Cc loc var (CF cnt x)::DE loc var (l.map (CF cnt))
  rw[Ez (h x tS),KL fun y hy=>h y (tW _ hy)]
theorem Pz.succ{cnt:Nat}{x:CX}(h:Pz cnt x):Pz (cnt+1) x:=fun p hp=>um (h p hp)
theorem Io.push{loc var:List AV}{cnt:Nat}{r:Nat×Gh}{q:T4}(h:Io loc var cnt r q)(v:AV):Io (v::loc) var (cnt+1) r q:=by
  obtain⟨p,hp,hlt⟩:=h.ba
  refine⟨h.idx,h.sh,(KL h.bx).trans h.aS,?_,?_,fun x hx=>(h.bx x hx).succ,⟨p,hp,um hlt⟩,fun x b e=>(h.bg x b e).succ⟩
  · rw [Ez]
    · exact h.v
    · intro p' e;rw[hp]at e;injection e with e;subst e;exact hlt
  · rw[← h.want]
    cases hg:r.2.guard with
    | none=>rfl
    | some g =>
      obtain⟨x,b⟩:=g
      simp only[F0,BO]
      rw[Ez (h.bg x b hg)]
theorem Fk.push{loc var:List AV}{cnt:Nat}{rs:List (Nat×Gh)}{m:List T4}(h:Fk loc var cnt rs m)(v:AV):Fk (v::loc) var (cnt+1) rs m:=by
 induction h with
 | nil=>exact .nil
 | cons h _ ih=>exact .cons (h.push v) ih
theorem W1{loc var:List AV}{v:AV}{j:Nat}{x:CX}(h:isVar j x=false):Cc loc (F4 v var j) x=Cc loc var x:=by
 cases x with
 | loc p=>rfl
 | const c=>rfl
 | var i =>
  simp only[Cc]
  rw[Ff]
  intro e
  subst e
  simp[isVar]at h
theorem O1{cnt j:Nat}{x:CX}:isVar j (CF cnt x)=isVar j x:=by cases x<;>rfl
theorem SV{loc var:List AV}{v:AV}{j cnt:Nat}:∀ {xs:List CX},(xs.all fun x=>!isVar j x)=true→DE loc (F4 v var j) (xs.map (CF cnt))=DE loc var (xs.map (CF cnt))
 | [],_=>rfl
 | x::l,h=>by
  simp only[List.all_cons,Bool.and_eq_true,Bool.not_eq_true']at h
  show Cc loc (F4 v var j) (CF cnt x)::DE loc (F4 v var j) (l.map (CF cnt))=Cc loc var (CF cnt x)::DE loc var (l.map (CF cnt))
  rw[W1 (by rw[O1];exact h.1),SV h.2]
theorem Io.set{loc var:List AV}{cnt j:Nat}{r:Nat×Gh}{q:T4}(h:Io loc var cnt r q)(v:AV)(hf:RR j r.2=true):Io loc (F4 v var j) cnt r q:=by
 obtain⟨p,hp,hlt⟩:=h.ba
 simp only[RR,Bool.and_eq_true]at hf
 refine⟨h.idx,h.sh,(SV hf.2).trans h.aS,?_,?_,h.bx,h.ba,h.bg⟩
 ·rw[← h.v,hp];rfl
 ·rw[← h.want]
  cases hg:r.2.guard with
  | none=>rfl
  | some g =>
   obtain⟨x,b⟩:=g
   have:=hf.1
   rw[hg]at this
   simp only[Bool.not_eq_true']at this
   simp only[F0,BO]
   rw[W1 (by rw[O1];exact this)]
theorem Fk.set{loc var:List AV}{cnt j:Nat}{rs:List (Nat×Gh)}{m:List T4}(h:Fk loc var cnt rs m)(v:AV)(hf:(rs.all fun r=>RR j r.2)=true):Fk loc (F4 v var j) cnt rs m:=by
 induction h with
 | nil=>exact .nil
 | cons h _ ih =>
  simp only[List.all_cons,Bool.and_eq_true]at hf
  exact .cons (h.set v hf.1) (ih hf.2)
theorem Zo       {s : AD}  {loc var : List AV} {cnt : Nat} {f : Nat × Gh  → Bool} : ∀ {rs : List (Nat × Gh)}  {m : List T4},  Fk    loc var cnt rs m → ES     s loc var ((rs.filter f).map fun r => Jv    cnt r.2) = true →
    ∀q∈m,(∀r:Nat×Gh,r.1=q.idx→f r=true)→q.want=true→Ei q.sh q.aS s=some q.v:=by
  intro rs m h
  induction h with
  | nil=>intro _ q hq;cases hq
  | cons h hl ih =>
    rename_i r q l m
    intro hag q' hq' hf hw
    simp only[List.filter_cons]at hag
    cases hq' with
    | head =>
      rw[if_pos (hf r h.idx)]at hag
      have hag:(GB s loc var (Jv cnt r.2) && ES s loc var ((l.filter f).map fun r=>Jv cnt r.2))=true:=hag
      simp only[Bool.and_eq_true]at hag
      have h1:=hag.1
      simp only[GB,Jv,h.want,hw,Bool.not_true,Bool.false_or,h.aS,h.v,h.sh]at h1
      cases hr:Ei q.sh q.aS s with
      | none=>rw[hr]at h1;cases h1
      | some u =>
        rw[hr]at h1
        have:=FA (show FT u q.v=true from h1)
        rw[this]
    | tail _ hq' =>
      refine ih ?_ q' hq' hf hw
      by_cases hfr:f r=true
      · rw[if_pos hfr]at hag
        have hag:(GB s loc var (Jv cnt r.2) && ES s loc var ((l.filter f).map fun r=>Jv cnt r.2))=true:=hag
        simp only[Bool.and_eq_true]at hag
        exact hag.2
      · rw[if_neg hfr]at hag
        exact hag
theorem fx       {P : Program} {vars : List Tmp} {c : iz}  {loc var : List AV} {R : Bw}   {ops : Array Oper} {o : Oper} {g : Option (CX × Bool)} (h : EQ   vars c loc var R)
    (hg:(match o.guard with
        | none=>some none
        | some (j,want)=>(ops[j]?).bind fun p=>p.dst.bind fun d=>(Ej vars c d).bind fun x=>some (some (x,want)))=some g)
    (hj:Zj loc var (F0 c.cnt g)=false):
    KA ops R o=some (BO loc var (F0 c.cnt g))∧∀x b,g=some (x,b)→Pz c.cnt x:=by
  unfold KA
  split at hg
  · rename_i he
    injection hg with hg
    subst hg
    try rw[he]
    exact⟨rfl,fun x b e=>by cases e⟩
  · rename_i j want he
    simp only[tH]at hg
    obtain⟨p,h1,d,h2,x,h3,h4⟩:=hg
    injection h4 with h4
    subst h4
    try rw[he]
    refine⟨?_,fun y b e=>by injection e with e;injection e with e1 e2;subst e1;exact Nx h h3⟩
    simp only[F0,Zj]at hj
    simp only[h1,h2,Option.bind_some,h.val d x h3,F0,BO,hj,cond_false]
theorem Un         {P : Program} {F : DH}  {nt : Nat} {vars : List Tmp} {ops : Array Oper} {b : Array Nat} {draw : Bool} :
    ∀ (l:List Nat) (c:iz) (rs:List (Nat×Gh)) (items:List AB) (loc var:List AV) (s:AD) (var':List AV) (s':AD) (R:Bw) (m:List T4),
      En P nt vars ops b draw l c rs=some items→EZ F items loc var s=some (var',s')→EQ vars c loc var R→Fk loc var c.cnt rs m →
      ∃R',Trace P F ops nt b draw l m R s R' s'∧∃c' loc',EQ vars c' loc' var' R':=by
  intro l
  induction l with
  | nil =>
    intro c rs items loc var s var' s' R m hc hi hr hm
    injection hc with hc
    subst hc
    have hi:some (var,s)=some (var',s'):=hi
    injection hi with hi
    injection hi with h1 h2
    subst h1;subst h2
    exact⟨R,.nil,c,loc,hr⟩
  | cons i l ih =>
    intro c rs items loc var s var' s' R m hc hi hr hm
    simp only[En,tH]at hc
    obtain⟨o,ho,sh,hsh,xs,hxs,hc⟩:=hc
    split at hc
    ·
      rename_i x d hal hd
      obtain⟨hlt,hc⟩:=AA hc
      have hlt:d<nt:=by simpa[tP]using hlt
      have hx1:xs=[x]∧Lt vars (l.map fun j=>(ops.getD j default).dst) o x=true:=by
        split at hal
        · rename_i y
          cases ha:Lt vars (l.map fun j=>(ops.getD j default).dst) o y with
          | true=>rw[ha]at hal;injection hal with hal;subst hal;exact⟨rfl,ha⟩
          | false=>rw[ha]at hal;cases hal
        · cases hal
      obtain⟨rfl,ha⟩:=hx1
      simp only[Lt,Bool.and_eq_true]at ha
      obtain⟨⟨⟨a1,a2⟩,a3⟩,_⟩:=ha
      split at a1<;>first | (cases a1;done) | skip
      rename_i y hop
      have hsh':sh=(.p1 some,[y]):=by rw[hop]at hsh;injection hsh with hsh;exact hsh.symm
      subst hsh'
      have hy:Eh vars c y=some x:=by
        simp only[Ib,tH]at hxs
        obtain⟨a,h1,r,h2,h3⟩:=hxs
        injection h3 with h3
        injection h3 with h3 h4
        subst h3
        exact h1
      rw[hd]at a3
      have hpd:Aq vars d=none:=by simpa using a3
      have hr':=hr.alias hy hpd
      obtain⟨R',t1,t2⟩:=ih _ rs items loc var s var' s' _ m hc hi hr' hm
      refine⟨R',.cons (sh:=.p1 some) (want:=true) (aS:=[Cc loc var (CF c.cnt x)]) (v:=Cc loc var (CF c.cnt x)) (R1:=R.put (some d) (Cc loc var (CF c.cnt x))) (s1:=s) ho ?_ ?_ ?_,t2⟩
      · refine ⟨⟨[y], hsh, ?_⟩, ?_, by rw [hd], ?_, fun _ => rfl, fun e => by cases e⟩
        · simp[D7,NX hr hy]
        · unfold KA
          cases hg:o.guard with
          | none=>rfl
          | some g=>rw[hg]at a2;cases a2
        · intro d' e;rw[hd]at e;injection e with e;subst e;exact hlt
      · intro _ e;cases e
      · have:(draw && Sh.isRead (.p1 some))=false:=by cases draw<;>rfl
        rw[this]
        exact t1
    ·
      simp only[tH]at hc
      obtain⟨g,hg,q,hq,hc⟩:=hc
      obtain⟨hpush,hc⟩:=AA hc
      simp only[tH]at hc
      obtain⟨items',hc',hc⟩:=hc
      injection hc with hc
      subst hc
      have has:=PI hr hxs
      have hi:LS F _ (EZ F items') loc var s=some (var',s'):=hi
      have hj:Zj loc var (F0 c.cnt g)=false:=by
        cases hj:Zj loc var (F0 c.cnt g)with
        | false=>rfl
        | true=>unfold LS at hi;simp only[hj]at hi;cases hi
      obtain⟨hw,hgb⟩:=fx (P:=P) hr hg hj
      have step:∃v s1,(BO loc var (F0 c.cnt g)=true→iy F sh.1 (DE loc var (xs.map (CF c.cnt))) s=some (v,s1))∧(BO loc var (F0 c.cnt g)=false→v=Bo∧s1=s) ∧
          Ce (bif BO loc var (F0 c.cnt g)then ((match draw,sh.1.isEff with
            | true,true=>rs.filter fun(r:Nat×Gh)=>!(b.getD i 0).testBit r.1
            | _,_=>[]).map fun(r:Nat×Gh)=>Jv q.2.cnt r.2)else []) q.1 (EZ F items') loc var v s1=some (var',s'):=by
        unfold LS at hi
        simp only[hj]at hi
        cases hwt:BO loc var (F0 c.cnt g)with
        | true =>
          simp only[hwt]at hi
          unfold L9 at hi
          split at hi<;>first | (cases hi;done) | skip
          rename_i p hp
          exact⟨p.1,p.2,fun _=>lH hp,(fun e=>by cases e),hi⟩
        | false =>
          simp only[hwt]at hi
          exact⟨Bo,s,(fun e=>by cases e),fun _=>⟨rfl,rfl⟩,hi⟩
      obtain⟨v,s1,st1,st2,st3⟩:=step
      have fin:∀ (loc1 var1:List AV),EQ vars q.2 loc1 var1 (R.put o.dst v)→Fk loc1 var1 q.2.cnt rs m →
          ((draw && sh.1.isRead)=true→Io loc1 var1 q.2.cnt (i,{ guard:=g,sh:=sh.1,xs,ans:=.loc c.cnt }) ⟨i,sh.1,DE loc var (xs.map (CF c.cnt)),v,BO loc var (F0 c.cnt g)⟩) →
          (∀d,o.dst=some d→d<nt) →
          ES s1 loc1 var1 (bif BO loc var (F0 c.cnt g)then ((match draw,sh.1.isEff with
            | true,true=>rs.filter fun(r:Nat×Gh)=>!(b.getD i 0).testBit r.1
            | _,_=>[]).map fun(r:Nat×Gh)=>Jv q.2.cnt r.2)else [])=true→EZ F items' loc1 var1 s1=some (var',s') →
          ∃R',Trace P F ops nt b draw (i::l) m R s R' s'∧∃c' loc',EQ vars c' loc' var' R':=by
        intro loc1 var1 f1 f2 f3 f4 f5 f6
        have hm':Fk loc1 var1 q.2.cnt (bif draw && sh.1.isRead then (i,{ guard:=g,sh:=sh.1,xs,ans:=.loc c.cnt })::rs else rs)
            (bif draw && sh.1.isRead then ⟨i,sh.1,DE loc var (xs.map (CF c.cnt)),v,BO loc var (F0 c.cnt g)⟩::m else m):=by
          cases hrd:(draw && sh.1.isRead)with
          | true=>exact .cons (f3 hrd) f2
          | false=>exact f2
        obtain⟨R',t1,t2⟩:=ih _ _ items' loc1 var1 s1 var' s' _ _ hc' f6 f1 hm'
        refine⟨R',.cons ho ⟨⟨sh.2,hsh,has⟩,hw,rfl,f4,st1,st2⟩ ?_ t1,t2⟩
        intro hd he hwt r hr1 hr2 hr3
        rw[hwt,hd,he]at f5
        simp only[cond_true]at f5
        exact Zo f2 f5 r hr1 (fun r' e=>by rw[e,hr2];rfl) hr3
      have newRd:∀ (loc1:List AV),loc1=v::loc→q.2.cnt=c.cnt+1→Io loc1 var q.2.cnt (i,{ guard:=g,sh:=sh.1,xs,ans:=.loc c.cnt }) ⟨i,sh.1,DE loc var (xs.map (CF c.cnt)),v,BO loc var (F0 c.cnt g)⟩:=by
        intro loc1 e1 e2
        subst e1
        rw[e2]
        have hbx:∀x∈xs,Pz c.cnt x:=by
          have:∀ (l:List Operand) (xs:List CX),Ib vars c l=some xs→∀x∈xs,Pz c.cnt x:=by
            intro l
            induction l with
            | nil=>intro xs h;injection h with h;subst h;intro x hx;cases hx
            | cons a l ih =>
              intro xs h
              simp only[Ib,tH]at h
              obtain⟨y,h1,r,h2,h3⟩:=h
              injection h3 with h3
              subst h3
              intro x hx
              cases hx with
              | head=>exact NU hr h1
              | tail _ hx=>exact ih r h2 x hx
          exact this _ _ hxs
        refine⟨rfl,rfl,KL hbx,?_,?_,fun x hx=>(hbx x hx).succ,⟨c.cnt,rfl,t6 _⟩,fun x b e=>(hgb x b e).succ⟩
        · simp only[CF,Cc]
          rw[show c.cnt+1 - 1 - c.cnt=0 from by omega]
          rfl
        · cases g with
          | none=>rfl
          | some g =>
            obtain⟨x,b⟩:=g
            simp only[F0,BO]
            rw[Ez (hgb x b rfl)]
      have ifsome:∀ {α:Type} {c:Bool} {x:Option α} {y:α},(bif c then x else none)=some y→c=true∧x=some y:=by
        intro α c x y h
        cases c with
        | true=>exact⟨rfl,h⟩
        | false=>cases h
      split at hq
      · rename_i hd
        injection hq with hq
        subst hq
        simp only[Ce]at st3
        obtain⟨k1,k2⟩:=ifsome st3
        have hput:R.put o.dst v=R:=by rw[hd];rfl
        exact fin (v::loc) var (by rw[hput];exact hr.pushNone v) (hm.push v) (fun _=>newRd _ rfl rfl) (fun d e=>by rw[hd]at e;cases e) k1 k2
      · rename_i d hd
        obtain⟨hlt,hq⟩:=AA hq
        have hlt:d<nt:=by simpa[tP]using hlt
        have hdl:∀d',o.dst=some d'→d'<nt:=fun d' e=>by rw[hd]at e;injection e with e;subst e;exact hlt
        split at hq
        · rename_i j hj
          obtain⟨hal,hq⟩:=AA hq
          injection hq with hq
          subst hq
          simp only[Bool.and_eq_true]at hal
          simp only[Ce]at st3
          obtain⟨k1,k2⟩:=ifsome st3
          refine fin loc (F4 v var j) (by rw[hd];exact hr.set v hj hal.1) (hm.set v hal.2) ?_ hdl k1 k2
          intro hrd
          rw[hrd]at hpush
          cases hpush
        · rename_i hj
          injection hq with hq
          subst hq
          simp only[Ce]at st3
          obtain⟨k1,k2⟩:=ifsome st3
          exact fin (v::loc) var (by rw[hd];exact hr.push v hj) (hm.push v) (fun _=>newRd _ rfl rfl) hdl k1 k2
def JY(r:Option Nat):Fence:={ Fence.wide with round:=r }
def E5(ρ:A5)(R:Bw)(tmps:Array Value):Prop:=∀ (t:Tmp)(v:AV),R t=some v→t<tmps.size∧AM ρ v (tmps.getD t undef)
def Bk(P:Program)(ρ:A5)(s:AD)(w:World)(v:AV)(s1:AD):Ending→World→Prop
 | .returned v',w'=>∃ρ',AM ρ' v v'∧As P ρ' s1 w'∧Fr ρ s w ρ' s1 w'
 | _,_=>False
inductive DI (P:Program) (ρ:A5) (s:AD) (w:World) (v:AV) (s1:AD):Result Next→Prop
 | value {v':Value} {w':World} {ρ':A5} (hv:AM ρ' v v') (hi:As P ρ' s1 w') (hf:Fr ρ s w ρ' s1 w'):DI P ρ s w v s1 (.ok (.value v') w')
 | skip {w':World} {ρ':A5} (hv:AM ρ' v undef) (hi:As P ρ' s1 w') (hf:Fr ρ s w ρ' s1 w'):DI P ρ s w v s1 (.ok .skip w')
 | enter {f:FuncId} {args:Array Value} (h:CallsIn Fence.wide 0 P f args w (Bk P ρ s w v s1)):DI P ρ s w v s1 (.ok (.enter f args) w)
 | round {l:Nat} {f:FuncId} {tmps:Array Value} {assign body:Code} (h:RoundIn Fence.wide 0 P l f tmps assign body w (Bk P ρ s w v s1)):DI P ρ s w v s1 (.ok (.round l f tmps assign body) w)
def Ah(ρ:A5)(s:AD):Prop:=∀i,s.next≤i→ρ i=none∧s.heap.get i=none
structure i6(P:Program)(F:DH):Prop where
 call:∀ (ρ:A5) (s:AD) (w:World) (f:FuncId) (aS:List AV) (v:AV) (s1:AD) (as':Array Value),F.call f aS s=some (v,s1)→As P ρ s w→Ah ρ s→AJ ρ aS as'.toList →
  DI P ρ s w v s1 ((callFunc f as').run P w)
 round:∀ (ρ:A5) (s:AD) (w:World) (l:Nat) (rb:RB) (aS:List AV) (v:AV) (s1:AD) (as':Array Value),F.round l aS s=some (v,s1)→As P ρ s w→Ah ρ s→ρ l=some rb→AJ ρ aS as'.toList →
  DI P ρ s w v s1 ((Instr.yield rb.b as').run P w)
section
variable{P:Program}{ρ ρ1 ρ2:A5}{s s1 s2:AD}{w w1 w2:World}{R:Bw}{a:Act}{ops:Array Oper}
theorem E5.mono{tmps:Array Value}(h:E5 ρ R tmps)(le:ρ.le ρ1):E5 ρ1 R tmps:=fun t v hv=>⟨(h t v hv).1,(h t v hv).2.mono le⟩
theorem TS(h:E5 ρ R a.tmps){o:Operand}{v:AV}(hv:TR R o=some v):AM ρ v (a.eval o):=by
 cases o with
 | tmp t=>exact(h t v hv).2
 | const c=>exact Br ρ hv
 | global g=>injection hv with hv;subst hv;exact .gptr g 0
 | func f=>injection hv with hv;subst hv;exact .func .nil .nil
theorem Kg(h:E5 ρ R a.tmps):∀ {xs:List Operand}{aS:List AV},D7 R xs=some aS→AJ ρ aS (xs.map a.eval)
 | [],aS,e=>by injection e with e;subst e;exact .nil
 | x::l,aS,e=>by
  simp only[D7,tH]at e
  obtain⟨v,h1,r,h2,h3⟩:=e
  injection h3 with h3
  subst h3
  exact .cons (TS h h1) (Kg h h2)
theorem BH(a:Act)(d:Option Tmp)(v:Value):(a.put d v).tmps.size=a.tmps.size:=by cases d<;>simp[Act.put]
theorem Bt(a:Act)(d:Option Tmp)(v:Value):(a.put d v).defers=a.defers:=by cases d<;>rfl
theorem E5.put   (h : E5   ρ R a.tmps) {d : Option Tmp} {v : AV} {v' : Value} (hd : ∀ t, d = some t → t < a.tmps.size) (hv : AM   ρ v v') : E5   ρ (R.put d v) (a.put d v').tmps := by
  cases d with
  | none=>exact h
  | some d =>
    intro t u hu
    simp only[Act.put,Array.size_setIfInBounds]
    by_cases e:t=d
    · subst e
      simp only[Bw.put,if_true,Option.some.injEq]at hu
      subst hu
      have:=hd t rfl
      exact⟨this,by simpa[Array.getD_eq_getD_getElem?,this]using hv⟩
    · simp only[Bw.put,if_neg e]at hu
      have:=h t u hu
      refine⟨this.1,?_⟩
      have e2:(a.tmps.setIfInBounds d v').getD t undef=a.tmps.getD t undef:=by
        simp[Array.getD_eq_getD_getElem?,Array.getElem?_setIfInBounds_ne (Ne.symm e)]
      rw[e2]
      exact this.2
theorem Pj(h:E5 ρ R a.tmps){o:Oper}{want:Bool}(hw:KA ops R o=some want):Region.wanted o (yielded ops a.tmps)=want:=by
  unfold KA at hw
  unfold Region.wanted
  split at hw
  · rename_i hg;rw[hg];injection hw
  · rename_i j b hg
    rw[hg]
    simp only[tH]at hw
    obtain⟨p,h1,d,h2,x,h3,h4⟩:=hw
    have hnj:qB x=false:=by
      cases hj:qB x with
      | false=>rfl
      | true=>rw[hj]at h4;cases h4
    rw[hnj]at h4
    injection h4 with h4
    subst h4
    obtain⟨hlt,hv⟩:=h d x h3
    have hy:yielded ops a.tmps j=(match a.tmps.getD d undef with | .bool b=>some b | _=>none):=by
      unfold yielded
      rw[h1]
      simp only[Option.bind_some,h2]
      rw[Array.getElem?_eq_getElem hlt,show a.tmps.getD d undef=a.tmps[d]from by simp[Array.getD_eq_getD_getElem?,hlt]]
      cases a.tmps[d]<;>rfl
    simp only[hy]
    generalize a.tmps.getD d undef=y at hv
    cases hv with
    | any h=>cases hnj
    | _=>first | rfl | (rename_i c;cases c<;>cases b<;>rfl)
theorem eg{F:DH}(hF:i6 P F)(h:As P ρ s w)(hf:Ah ρ s){f v:AV}{f':Value}{aS:List AV}{as':Array Value}(hc:Gq F f aS s=some (v,s1))(hv:AM ρ f f')(ha:AJ ρ aS as'.toList):
  DI P ρ s w v s1 ((do let d ← Deferred.ofValue f' as';invoke d.target d.args:Sem Next).run P w):=by
 unfold Gq at hc
 split at hc<;>first | (cases hc;done) | skip
 ·cases hv with
  | func h1 h2 =>
   rename_i f x c x' c'
   have:=hF.call ρ s w f _ v s1 ((x'++as')++c') hc h hf (by simpa using h1.append (ha.append h2))
   simpa[Deferred.ofValue,invoke]using this
 ·cases hv with
  | yield h1 =>
   rename_i l rb
   have:=hF.round ρ s w l rb _ v s1 as' hc h hf h1 ha
   simpa[Deferred.ofValue,invoke]using this
theorem B9.next{sem:Sem Next}{v:AV}(h:B9 P ρ s w sem v s1):DI P ρ s w v s1 (sem.run P w):=by
 obtain⟨v',w',ρ',h1,h2,h3,h4⟩:=h
 rcases h1 with h1 | ⟨h1,e⟩
 ·rw[h1];exact .value h2 h3 h4
 ·subst e;rw[h1];exact .skip h2 h3 h4
theorem ZW        {F : DH}  (hF : i6  P F) (h : As  P ρ s w) (hf : Ah     ρ s) {o : Oper} {sh : Sh} {xs : List Operand} {aS : List AV} {v : AV} {ev : Operand → Value} (hev : ∀ f, ev (.func f) = .func (.func f) #[] #[]) (hsh : Az      P o.op = some (sh, xs)) (ha : AJ    ρ aS (xs.map ev)) (hr : iy  F sh aS s = some (v, s1)) :
    DI P ρ s w v s1 ((execOp ev o).run P w):=by
  have plain:Kk sh aS s=some (v,s1)→DI P ρ s w v s1 ((execOp ev o).run P w):=fun hl=>(nT h (hf _ (tJ _)).1 hev hsh ha hl).next
  have calls:(∀f,sh≠.call f)→sh≠.callv→DI P ρ s w v s1 ((execOp ev o).run P w):=by
    intro h1 h2
    refine plain ?_
    cases sh<;>first | exact hr | exact absurd rfl (h1 _) | exact absurd rfl h2
  have isCall:(∃f,sh=.call f)∨sh=.callv→∃c,o.op=.call c:=by
    intro hc
    cases ho:o.op<;>rw[ho]at hsh<;>first | exact⟨_,rfl⟩ | (simp[Az]at hsh;done) | skip
    case binOp op t x y f =>
      simp only[Az]at hsh
      split at hsh<;>(injection hsh with hsh;injection hsh with e1 e2;subst e1;rcases hc with⟨_,hc⟩ | hc<;>cases hc)
    case makeMap t r =>
      cases r with
      | some _=>cases hsh
      | none=>obtain⟨_,hsh⟩:=AA hsh;injection hsh with hsh;injection hsh with e1 e2;subst e1;rcases hc with⟨_,hc⟩ | hc<;>cases hc
    case makeFunc fn first captured =>
      cases fn with
      | func f=>injection hsh with hsh;injection hsh with e1 e2;subst e1;rcases hc with⟨_,hc⟩ | hc<;>cases hc
      | _=>cases hsh
    all_goals first | (injection hsh with hsh;injection hsh with e1 e2;subst e1;rcases hc with⟨_,hc⟩ | hc<;>cases hc;done) | (obtain⟨_,hsh⟩:=AA hsh;injection hsh with hsh;injection hsh with e1 e2;subst e1;rcases hc with⟨_,hc⟩ | hc<;>cases hc)
  by_cases hc:(∃f,sh=.call f)∨sh=.callv
  · obtain⟨⟨callee,args,argTypes⟩,ho⟩:=isCall hc
    rw[ho]at hsh
    have hx:∀g,callee=.value g→execOp ev o=(do let d ← Deferred.ofValue (ev g) (args.map ev);invoke d.target d.args):=by
      intro g hg
      subst hg
      simp only[execOp,ho,resolve]
    have notB:∀b,callee≠.builtin b:=by
      intro b e
      subst e
      simp only[Az]at hsh
      split at hsh<;>first | (cases hsh;done) | skip
      all_goals first
        | (injection hsh with hsh;injection hsh with e1 e2;subst e1;rcases hc with⟨_,hc⟩ | hc<;>cases hc;done)
        | (split at hsh<;>first | (cases hsh;done) | (injection hsh with hsh;injection hsh with e1 e2;subst e1;rcases hc with⟨_,hc⟩ | hc<;>cases hc;done) | (obtain⟨_,hsh⟩:=AA hsh;injection hsh with hsh;injection hsh with e1 e2;subst e1;rcases hc with⟨_,hc⟩ | hc<;>cases hc;done))
    simp only[Az]at hsh
    split at hsh
    · rename_i f
      split at hsh
      · injection hsh with hsh;injection hsh with e1 e2;subst e1;rcases hc with⟨_,hc⟩ | hc<;>cases hc
      injection hsh with hsh;injection hsh with e1 e2;subst e1;subst e2
      rw[hx _ rfl,hev]
      have:=hF.call ρ s w f aS v s1 (args.map ev) hr h hf (by simpa using ha)
      simpa[Deferred.ofValue,invoke]using this
    · rename_i x _
      injection hsh with hsh;injection hsh with e1 e2;subst e1;subst e2
      rw[hx _ rfl]
      cases ha with
      | cons h1 h2=>exact eg hF h hf hr h1 (by simpa using h2)
    · cases hsh
    · exact absurd rfl (notB _)
  · exact calls (fun f e=>hc (.inl ⟨f,e⟩)) (fun e=>hc (.inr e))
end
section
variable{P:Program}{ρ ρ1 ρ2:A5}{s s1 s2:AD}{w w1 w2:World}{R:Bw}{a:Act}{ops:Array Oper}{rnd:Option Nat}{Q:Exit→Act→World→Prop}
theorem Kv{n:Nat}{f:FuncId}{args:Array Value}{Rr:Ending→World→Prop}(h:CallsIn Fence.wide n P f args w Rr):CallsIn (JY rnd) n P f args w Rr:=h
theorem TV{n l:Nat}{f:FuncId}{tmps:Array Value}{assign body:Code}{Rr:Ending→World→Prop}(h:RoundIn Fence.wide n P l f tmps assign body w Rr):RoundIn (JY rnd) n P l f tmps assign body w Rr:=h
theorem Ah.step(h:Ah ρ s)(k:Fr ρ s w ρ1 s1 w1):Ah ρ1 s1:=fun i hi =>
 ⟨k.fresh i (h i (tN k.next hi)).1 (.inr hi),(k.unborn i (h i (tN k.next hi)).1 (.inr hi)).trans (h i (tN k.next hi)).2⟩
theorem PG{o:Oper}{v:AV}{K:Act→World→Prop}{r:Result Next}(h:DI P ρ s w v s1 r)
    (hk:∀v' w' ρ',AM ρ' v v'→As P ρ' s1 w'→Fr ρ s w ρ' s1 w'→K (a.put o.dst v') w'):o.uponIn (JY rnd) 0 P a K Q r:=by
  cases h with
  | value hv hi hf=>exact hk _ _ _ hv hi hf
  | skip hv hi hf=>exact hk _ _ _ hv hi hf
  | enter h =>
    refine⟨fun e=>(by cases e),Kv (CallsIn.mono h ?_)⟩
    intro e w' he
    cases e with
    | returned v'=>obtain⟨ρ',h1,h2,h3⟩:=he;exact hk _ _ _ h1 h2 h3
    | panicked c=>exact he.elim
    | outgrown=>exact he.elim
  | round h =>
    refine⟨fun e=>(by cases e),TV (RoundIn.mono h ?_)⟩
    intro e w' he
    cases e with
    | returned v'=>obtain⟨ρ',h1,h2,h3⟩:=he;exact hk _ _ _ h1 h2 h3
    | panicked c=>exact he.elim
    | outgrown=>exact he.elim
theorem PH{o:Oper}{x:Sh×List Operand}(h:Az P o.op=some x):∀c,o.op≠.defer c:=by
 intro c e
 rw[e]at h
 simp[Az]at h
theorem YK{F:DH}(hF:i6 P F)(h:As P ρ s w)(hf:Ah ρ s){nt i:Nat}{o:Oper}{sh:Sh}{want:Bool}{aS:List AV}{v:AV}{R1:Bw}{K:Act→World→Prop}(ho:ops[i]? = some o)
  (hs:MM P F ops nt R s o sh want aS v R1 s1) (hr:E5 ρ R a.tmps) (hnt:nt≤a.tmps.size)
  (hk:∀v' w' ρ',AM ρ' v v'→As P ρ' s1 w'→Fr ρ s w ρ' s1 w'→K (a.put o.dst v') w'):wpOpIn (JY rnd) 0 P ops Q i K a w:=by
 unfold wpOpIn
 rw[ho]
 simp only
 obtain⟨xs,hsh,has⟩:=hs.shape
 rw[Pj hr hs.wants]
 cases want with
 | true =>
  simp only[if_true]
  refine⟨fun _ _=>trivial,?_⟩
  rw[Oper.semAt_eq _ _ _ (PH hsh)]
  exact PG (ZW hF h hf (fun _=>rfl) hsh (Kg hr has) (hs.yes rfl)) hk
 | false =>
  simp only[Bool.false_eq_true,if_false]
  refine⟨fun _ _=>trivial,?_⟩
  obtain⟨rfl,rfl⟩:=hs.no rfl
  exact hk undef w ρ (DC ρ) h (Fr.refl _ _ _)
theorem Zf        {F : DH}  (hF : i6  P F) {nt : Nat} {b : Array Nat} {draw : Bool} {R2 : Bw}   :
    ∀ {l:List Nat} {m:List T4} {R:Bw} {s:AD} {ρ:A5} {a:Act} {w:World},Trace P F ops nt b draw l m R s R2 s2→As P ρ s w→Ah ρ s→E5 ρ R a.tmps→nt≤a.tmps.size →
      (∀a' w' ρ',As P ρ' s2 w'→Ah ρ' s2→Fr ρ s w ρ' s2 w'→E5 ρ' R2 a'.tmps→a'.tmps.size=a.tmps.size→a'.defers=a.defers→Q .normal a' w') →
      wpOpsIn (JY rnd) 0 P ops Q l a w:=by
  intro l
  induction l with
  | nil =>
    intro m R s ρ a w ht h hf hr hnt hq
    cases ht
    exact hq a w ρ h hf (Fr.refl _ _ _) hr rfl rfl
  | cons i l ih =>
    intro m R s ρ a w ht h hf hr hnt hq
    cases ht with
    | cons ho hs ag hl =>
      rename_i R1 s1 o sh want aS v
      rw[wpOpsIn_cons]
      refine YK hF h hf ho hs hr hnt ?_
      intro v' w' ρ' h1 h2 h3
      refine ih hl h2 (hf.step h3) ?_ (by rw[BH];exact hnt) ?_
      · rw[hs.put]
        exact(hr.mono h3.le).put (fun t e=>tO (hs.lt t e) hnt) h1
      · intro a' w'' ρ'' g1 g2 g3 g4 g5 g6
        exact hq a' w'' ρ'' g1 g2 (h3.trans g3) g4 (by rw[g5,BH]) (by rw[g6,Bt])
end
theorem Is(m i:Nat):Ir m i=m.testBit i:=by
 unfold Ir
 rw[Nat.testBit]
 show Nat.beq ((m >>> i) &&& 1) 1=((1 &&& (m >>> i)) != 0)
 have h:(m >>> i) &&& 1=1 &&& (m >>> i):=Nat.and_comm _ _
 rw[h]
 have h2:1 &&& (m >>> i)=0∨1 &&& (m >>> i)=1:=by
  have:1 &&& (m >>> i)≤1:=Nat.and_le_left
  omega
 rcases h2 with h2 | h2<;>rw[h2]<;>rfl
theorem PC        (f : Nat → Bool) : ∀ n j, (Fs    f n).testBit j = (decide (j < n) && f j)
  | 0,j=>by simp[Fs]
  | n + 1, j => by
    unfold Fs
    have ih:=PC f n j
    cases hf:f n with
    | true =>
      show(Nat.shiftLeft 1 n ||| Fs f n).testBit j=_
      rw[Nat.testBit_or,ih]
      show((1 <<< n).testBit j || _)=_
      rw[Nat.one_shiftLeft,u5]
      by_cases h:n=j
      · subst h;simp[hf]
      · have:decide (j<n+1)=decide (j<n):=by rw[decide_eq_decide];omega
        simp[h,this]
    | false =>
      show(Fs f n).testBit j=_
      rw[ih]
      by_cases h:n=j
      · subst h;simp[hf]
      · have:decide (j<n+1)=decide (j<n):=by rw[decide_eq_decide];omega
        rw[this]
theorem J4{a b:Nat}(h:ZY a b=true)(j:Nat)(hj:a.testBit j=true):b.testBit j=true:=by
 unfold ZY at h
 have h:=tM h
 have h:a &&& b=a:=h
 rw[← h,Nat.testBit_and,Bool.and_eq_true]at hj
 exact hj.2
theorem J7{l:List Tmp}{t:Tmp}(h:t∈l):(J6 l).testBit t=true:=by
 induction l with
 | nil=>cases h
 | cons a l ih =>
  show(qA a ||| J6 l).testBit t=true
  rw[Nat.testBit_or,Bool.or_eq_true]
  rcases uT.1 h with rfl | h
  ·left
   show(1 <<< t).testBit t=true
   rw[Nat.one_shiftLeft,u5];simp
  ·exact .inr (ih h)
theorem M0{done:Nat}:∀ {l:List Edge},QS done l=true→∀e∈l,Region.binds .any e=true→done.testBit e.on=true
  | [],_,e,he,_=>by cases he
  | a::l,h,e,he,hb=>by
    simp only[QS,Bool.and_eq_true,Bool.or_eq_true,Bool.not_eq_true']at h
    rcases uT.1 he with rfl | he
    · rcases h.1 with h1 | h1
      · rw[hb]at h1;cases h1
      · rw[← Is];exact h1
    · exact M0 h.2 e he hb
theorem iT       {P : Program} {ops : Array Oper} {b : Array Nat} {before : List Nat} {done i : Nat} (hd : ∀ j, done.testBit j = true ↔ j ∈ before) (hlt : ∀ j ∈ before, j < ops.size)
    (h:YJ P ops (b.getD i 0) (Yr P ops) done i (ops.getD i default)=true):Kn P ops b before i=true:=by
  unfold YJ at h
  simp only[Bool.and_eq_true,Bool.not_eq_true',Is]at h
  obtain⟨h1,h2,h3,h4,h5,h6,h7,h8⟩:=h
  have hm:∀ (f:Nat→Bool) (j:Nat),j∈before→f j=true→(Nat.land done (Fs f ops.size)).testBit j=true:=fun f j hj hf=>by
    show(done &&& Fs f ops.size).testBit j=true
    rw[Nat.testBit_and,(hd j).2 hj,PC,hf]
    simp[hlt j hj]
  unfold Kn
  simp only[Bool.and_eq_true]
  refine⟨⟨⟨⟨⟨⟨h1,?_⟩,?_⟩,?_⟩,?_⟩,?_⟩,?_⟩
  · cases hc:before.contains i with
    | false=>rfl
    | true =>
      have:=(hd i).2 (List.contains_iff_mem.1 hc)
      rw[h2]at this;cases this
  · rw[uR]
    intro j _
    cases ha:(b.getD i 0).testBit j with
    | false=>rfl
    | true=>exact List.contains_iff_mem.2 ((hd j).1 (J4 h3 j ha))
  · rw[Array.all_eq_true_iff_forall_mem]
    intro e he
    cases hb:Region.binds .any e with
    | false=>rfl
    | true=>exact List.contains_iff_mem.2 ((hd _).1 (M0 h4 e (Array.mem_toList_iff.2 he) hb))
  · rw[uR]
    intro j hj
    cases he:M1 P (ops.getD j default)with
    | false=>rfl
    | true=>exact J4 h5 j (hm (fun j=>M1 P (ops.getD j default)) j hj he)
  · rw[uR]
    intro j hj
    unfold Qx at hj
    unfold fw at h6
    split at hj
    · rename_i j' w hg
      rw[hg]at h6
      simp only[ul]at hj
      subst hj
      have h6:Ir (b.getD i 0) j=true:=h6
      rw[Is]at h6
      exact h6
    · cases hj
  · rw[uR]
    intro j hj
    simp only[Bool.and_eq_true]
    refine⟨?_,?_⟩
    · cases hd' : (ops.getD i default).dst with
      | none=>rfl
      | some d =>
        rw[hd']at h7
        simp only[Bool.and_eq_true]at h7
        obtain⟨k1,k2⟩:=h7
        have k1:=tM k1
        simp only[Bool.and_eq_true,bne_iff_ne,ne_eq,Bool.or_eq_true,Bool.not_eq_true']
        refine⟨fun e=>?_,?_⟩
        · have:=hm (fun j=>fT (ops.getD j default) d) j hj (by simp only[fT,e];exact Nat.beq_refl d)
          rw[k1]at this
          simp at this
        · cases hc:(EF P (ops.getD j default)).contains d with
          | false=>exact .inl rfl
          | true =>
            exact .inr (J4 k2 j (hm (fun j=>(Jl P (ops.getD j default)).testBit d) j hj (by exact J7 (List.contains_iff_mem.1 hc))))
    · cases hp:(ops.getD j default).dst with
      | none=>rfl
      | some d =>
        simp only[Bool.or_eq_true,Bool.not_eq_true']
        cases hc:(EF P (ops.getD i default)).contains d with
        | false=>exact .inl rfl
        | true =>
          exact .inr (J4 h8 j (hm (fun j=>fS (ops.getD j default) (Jl P (ops.getD i default))) j hj (by simp only[fS,hp];rw[Is];exact J7 (List.contains_iff_mem.1 hc))))
theorem Ng         {P : Program} {ops : Array Oper} {b : Array Nat} : ∀ (l : List Nat) (before : List Nat) (done n : Nat), n = before.length → (∀ j, done.testBit j = true ↔ j ∈ before) → (∀ j ∈ before, j < ops.size) → HV      P ops b (Yr   P ops) n done l = true → Ea     P ops b before l = true
  | [],before,done,n,hn,hd,hlt,h=>by
    subst hn;exact h
  | i::l,before,done,n,hn,hd,hlt,h=>by
    simp only[HV,Bool.and_eq_true]at h
    have hs:=iT hd hlt h.1
    have hi:i<ops.size:=by
      have:=h.1
      unfold YJ at this
      simp only[Bool.and_eq_true,tP]at this
      exact this.1
    simp only[Ea,hs,Bool.true_and]
    refine Ng l (before++[i]) _ (n+1) (by simp[hn]) (fun j=>?_) (fun j hj=>?_) h.2
    · show(1 <<< i ||| done).testBit j=true↔_
      rw[Nat.testBit_or,Bool.or_eq_true,Nat.one_shiftLeft,u5,hd,uu,ul,decide_eq_true_eq]
      constructor
      · rintro (h | h)
        · exact .inr h.symm
        · exact .inl h
      · rintro (h | h)
        · exact .inr h
        · exact .inl h.symm
    · rcases uu.1              hj with hj | hj
      · exact hlt j hj
      · rw[ul.1 hj];exact hi
theorem VT{P:Program}{ops:Array Oper}{b:Array Nat}{l:List Nat}(h:HV P ops b (Yr P ops) 0 0 l=true):Ea P ops b [] l=true:=
 Ng l [] 0 0 rfl (fun j=>by simp) (fun j hj=>by cases hj) h
def El(acc:Array Nat)(o:Oper):Nat:=o.after.foldl (fun s e=>if Region.binds .any e then s ||| 2 ^ e.on ||| acc.getD e.on 0 else s) 0
theorem Px           (acc : Array Nat) (o : Oper) (k : Nat) (h : (El      acc o).testBit k = true) : ∃ e ∈ o.after, Region.binds .any e = true ∧ (k = e.on ∨ (acc.getD e.on 0).testBit k = true) := by
  unfold El at h
  rw[← Array.foldl_toList]at h
  have key:∀ (l:List Edge) (s:Nat),(l.foldl (fun s e=>if Region.binds .any e then s ||| 2 ^ e.on ||| acc.getD e.on 0 else s) s).testBit k=true →
      s.testBit k=true∨∃e∈l,Region.binds .any e=true∧(k=e.on∨(acc.getD e.on 0).testBit k=true):=by
    intro l
    induction l with
    | nil=>intro s h;exact .inl h
    | cons e l ih =>
      intro s h
      simp only[List.foldl_cons]at h
      rcases ih _ h with h | ⟨e',he',h1,h2⟩
      · by_cases hb : Region.binds .any e = true
        · rw[if_pos hb]at h
          simp only[Nat.testBit_or,Bool.or_eq_true,u5]at h
          rcases h with(h | h) | h
          · exact .inl h
          · exact .inr ⟨e,tS,hb,.inl (by simpa using (of_decide_eq_true h).symm)⟩
          · exact .inr ⟨e,tS,hb,.inr h⟩
        · rw[if_neg hb]at h
          exact .inl h
      · exact .inr ⟨e',tW _ he',h1,h2⟩
  rcases key _ _ h with h | ⟨e,he,h1,h2⟩
  · simp at h
  · exact⟨e,Array.mem_toList_iff.1 he,h1,h2⟩
theorem SK          (ops : Array Oper) : ∀ i k, ((Region.before ops).getD i 0).testBit k = true → ∃ o, ops[i]? = some o ∧ ∃ e ∈ o.after, Region.binds .any e = true ∧ (k = e.on ∨ ((Region.before ops).getD e.on 0).testBit k = true) := by
  have key:∀ (l pre:List Oper) (acc:Array Nat),acc.size=pre.length →
      (∀i k,(acc.getD i 0).testBit k=true→∃o,pre[i]? = some o∧∃e∈o.after,Region.binds .any e=true∧(k=e.on∨(acc.getD e.on 0).testBit k=true)) →
      ∀i k,((l.foldl (fun acc o=>acc.push (El acc o)) acc).getD i 0).testBit k=true→∃o,(pre++l)[i]? = some o∧∃e∈o.after,Region.binds .any e=true∧(k=e.on∨((l.foldl (fun acc o=>acc.push (El acc o)) acc).getD e.on 0).testBit k=true):=by
    intro l
    induction l with
    | nil=>intro pre acc hs h;simpa using h
    | cons o l ih =>
      intro pre acc hs h
      simp only[List.foldl_cons]
      have:=ih (pre++[o]) (acc.push (El acc o)) (by simp[hs]) ?_
      · simpa using this
      · have up:∀j k,(acc.getD j 0).testBit k=true→((acc.push (El acc o)).getD j 0).testBit k=true:=by
          intro j k hj
          rcases tL j acc.size with hlt | hge
          · simpa[Array.getD_eq_getD_getElem?,Array.getElem?_push,Nat.ne_of_lt hlt]using hj
          · simp[Array.getD_eq_getD_getElem?,Array.getElem?_eq_none hge]at hj
        intro i k hi
        rcases un i acc.size with hlt | heq | hgt
        · have hi':(acc.getD i 0).testBit k=true:=by
            simpa[Array.getD_eq_getD_getElem?,Array.getElem?_push,Nat.ne_of_lt hlt]using hi
          obtain⟨o',h1,e,h2,h3,h4⟩:=h i k hi'
          refine⟨o',?_,e,h2,h3,h4.imp id (up _ _)⟩
          rw[uB (by omega)]
          exact h1
        · subst heq
          have hi':(El acc o).testBit k=true:=by
            simpa[Array.getD_eq_getD_getElem?]using hi
          obtain⟨e,h2,h3,h4⟩:=Px acc o k hi'
          refine⟨o,?_,e,h2,h3,h4.imp id (up _ _)⟩
          rw[hs]
          simp
        · have:(acc.push (El acc o))[i]? = none:=Array.getElem?_eq_none (by simp;omega)
          simp[Array.getD_eq_getD_getElem?,this]at hi
  intro i k h
  have h0:Region.before ops=ops.toList.foldl (fun acc o=>acc.push (El acc o)) #[]:=by
    unfold Region.before
    rw[← Array.foldl_toList]
    rfl
  rw[h0]at h ⊢
  obtain⟨o,h1,h2⟩:=key ops.toList [] #[] rfl (by intro i k h;simp at h) i k h
  exact⟨o,by simpa using h1,h2⟩
theorem Y9{P:Program}{o:Oper}{sh:Sh}{xs:List Operand}(h:Az P o.op=some (sh,xs)){t:Tmp}(ht:Operand.tmp t∈xs):t∈EF P o:=by
 unfold EF
 rw[h]
 refine List.mem_append_right _ (List.mem_filterMap.2 ⟨.tmp t,ht,rfl⟩)
structure KD(P:Program)(ops:Array Oper)(b:Array Nat)(π:List Nat):Prop where
 len:π.length=ops.size
 lt:∀p i:Nat,π[p]? = some i→i<ops.size
 inj:∀p q i:Nat,π[p]? = some i→π[q]? = some i→p=q
 edge:∀ (p i:Nat) (o:Oper),π[p]? = some i→ops[i]? = some o→∀e∈o.after,Region.binds .any e=true→∃q,q<p∧π[q]? = some e.on
 eff:∀ (p q i j:Nat) (o:Oper),π[p]? = some i→π[q]? = some j→q<p→ops[j]? = some o→M1 P o=true→(b.getD i 0).testBit j=true
 guard:∀ (p i:Nat) (o:Oper) (j:Nat) (w:Bool),π[p]? = some i→ops[i]? = some o→o.guard=some (j,w)→(b.getD i 0).testBit j=true
 wdst:∀ (p q i j:Nat) (o u:Oper) (d:Tmp),π[p]? = some i→π[q]? = some j→q<p→ops[i]? = some o→ops[j]? = some u→o.dst=some d→u.dst≠some d∧(d∈EF P u→(b.getD i 0).testBit j=true)
 rdst:∀ (p q i j:Nat) (o u:Oper) (d:Tmp),π[p]? = some i→π[q]? = some j→q<p→ops[i]? = some o→ops[j]? = some u→u.dst=some d→d∈EF P o→(b.getD i 0).testBit j=true
theorem Nh{P:Program}{ops:Array Oper}{b:Array Nat}:∀ {l bef:List Nat},Ea P ops b bef l=true →
  (bef++l).length=ops.size∧∀p i:Nat,l[p]? = some i→Kn P ops b (bef++l.take p) i=true:=by
 intro l
 induction l with
 | nil=>intro bef h;exact⟨by simpa using Ae h,fun p i e=>by simp at e⟩
 | cons a l ih =>
  intro bef h
  simp only[Ea,Bool.and_eq_true]at h
  obtain⟨h1,h2⟩:=ih h.2
  refine⟨by simpa using h1,?_⟩
  intro p i e
  cases p with
  | zero=>simp at e;subst e;simpa using h.1
  | succ p=>simpa using h2 p i (by simpa using e)
theorem D4{ops:Array Oper}{i:Nat}{o:Oper}(h:ops[i]? = some o):ops.getD i default=o:=by simp[Array.getD_eq_getD_getElem?,h]
theorem Ft{l:List Nat}{p j:Nat}:j∈l.take p↔∃q,q<p∧l[q]? = some j:=by
  rw[List.mem_iff_getElem?]
  constructor
  · rintro ⟨q, hq⟩
    rw[List.getElem?_take]at hq
    split at hq
    · exact⟨q,by assumption,hq⟩
    · cases hq
  · rintro⟨q,hlt,hq⟩
    exact⟨q,by rw[List.getElem?_take,if_pos hlt];exact hq⟩
theorem Kf{P:Program}{ops:Array Oper}{b:Array Nat}{π:List Nat}(h:Ea P ops b [] π=true):KD P ops b π:=by
 obtain⟨hlen,hst⟩:=Nh h
 simp only[uv]at hlen hst
 have parts:=fun(p i:Nat) (e:π[p]? = some i)=>by
  have:=hst p i e
  unfold Kn at this
  simpa only[Bool.and_eq_true,Bool.not_eq_true',Array.all_eq_true_iff_forall_mem,uR,Bool.or_eq_true]using this
 refine⟨hlen,?_,?_,?_,?_,?_,?_,?_⟩
 ·intro p i e
  have:=(parts p i e).1.1.1.1.1.1
  simpa[tP]using this
 ·have one:∀p q i:Nat,π[p]? = some i→π[q]? = some i→q<p→False:=by
   intro p q i e1 e2 hlt
   have:=(parts p i e1).1.1.1.1.1.2
   have hm:i∈π.take p:=Ft.2 ⟨q,hlt,e2⟩
   rw[List.contains_iff_mem.2 hm]at this
   cases this
  intro p q i e1 e2
  rcases un p q with h' | h' | h'
  ·exact(one q p i e2 e1 h').elim
  ·exact h'
  ·exact(one p q i e1 e2 h').elim
 ·intro p i o e ho ed hed hb
  have:=(parts p i e).1.1.1.2
  rw[D4 ho]at this
  rcases this ed hed with h' | h'
  ·rw[hb]at h';cases h'
  ·exact Ft.1 (List.contains_iff_mem.1 h')
 ·intro p q i j o e1 e2 hlt ho he
  have:=(parts p i e1).1.1.2 j (Ft.2 ⟨q,hlt,e2⟩)
  rw[D4 ho,he]at this
  exact this.resolve_left (by simp)
 ·intro p i o j w e ho hg
  have:=(parts p i e).1.2
  rw[D4 ho]at this
  exact this j (by simp[Qx,hg])
 ·intro p q i j o u d e1 e2 hlt ho hu hd
  have:=((parts p i e1).2 j (Ft.2 ⟨q,hlt,e2⟩)).1
  rw[D4 ho,D4 hu,hd]at this
  simp only[Bool.and_eq_true,Bool.or_eq_true,Bool.not_eq_true',bne_iff_ne,ne_eq]at this
  refine⟨this.1,fun hm=>?_⟩
  rcases this.2 with h' | h'
  ·rw[List.contains_iff_mem.2 hm]at h';cases h'
  ·exact h'
 ·intro p q i j o u d e1 e2 hlt ho hu hd hm
  have:=((parts p i e1).2 j (Ft.2 ⟨q,hlt,e2⟩)).2
  rw[D4 ho,D4 hu,hd]at this
  simp only[Bool.or_eq_true,Bool.not_eq_true']at this
  rcases this with h' | h'
  ·rw[List.contains_iff_mem.2 hm]at h';cases h'
  ·exact h'
theorem TG       : ∀ (m : Nat) (l : List Nat), l.Nodup → (∀ x ∈ l, x < m) → l.length ≤ m := by
  intro m
  induction m with
  | zero =>
    intro l _ h
    cases l with
    | nil=>simp
    | cons a l=>exact absurd (h a tS) (by omega)
  | succ m ih =>
    intro l hn h
    by_cases hm:m∈l
    · have h1:=ih (l.erase m) (hn.erase m) (fun x hx=>by
        have hx:=(hn.mem_erase_iff).1 hx
        have:=h x hx.2
        have:=hx.1
        omega)
      rw[List.length_erase_of_mem hm]at h1
      omega
    · have:=ih l hn (fun x hx=>by
        have:=h x hx
        have:x≠m:=fun e=>hm (e▸hx)
        omega)
      omega
theorem KD.onto     {P : Program} {ops : Array Oper} {b : Array Nat} {π : List Nat} (h : KD     P ops b π) {i : Nat} (hi : i < ops.size) : ∃ p : Nat, π[p]? = some i := by
  have hn:π.Nodup:=by
    refine List.pairwise_iff_getElem.2 ?_
    intro p q hp hq hpq e
    have:=h.inj p q (π[q]) (by rw[tQ hp,e]) (tQ hq)
    omega
  by_cases hm:i∈π
  · exact List.mem_iff_getElem?.1 hm
  · have hn' : (i :: π).Nodup := uS.2              ⟨hm, hn⟩
    have:=TG ops.size (i::π) hn' (fun x hx=>by
      rcases uT.1 hx with rfl | hx
      · exact hi
      · obtain⟨p,hp⟩:=List.mem_iff_getElem?.1 hx
        exact h.lt p x hp)
    simp only[tq,h.len]at this
    omega
structure Ob where
 R:Nat→Bw
 st:Nat→AD
 o:Nat→Oper
 sh:Nat→Sh
 want:Nat→Bool
 aS:Nat→List AV
 v:Nat→AV
structure PT(P:Program)(F:DH)(ops:Array Oper)(nt:Nat)(b:Array Nat)(π:List Nat)(D:Ob):Prop where
 op:∀p i:Nat,π[p]? = some i→ops[i]? = some (D.o p)
 step:∀p,p<π.length→MM P F ops nt (D.R p) (D.st p) (D.o p) (D.sh p) (D.want p) (D.aS p) (D.v p) (D.R (p+1)) (D.st (p+1))
 ag:∀p q i j:Nat,π[p]? = some i→π[q]? = some j→q<p→(D.sh p).isEff=true→D.want p=true→(D.sh q).isRead=true→(b.getD i 0).testBit j=false→D.want q=true →
  Ei (D.sh q) (D.aS q) (D.st (p+1))=some (D.v q)
def IJ{α:Type}(a:α)(f:Nat→α):Nat→α
 | 0=>a
 | p+1=>f p
theorem ia       {P : Program} {F : DH}  {ops : Array Oper} {nt : Nat} {b : Array Nat} {l : List Nat} {m : List T4}  {R R2 : Bw}   {s s2 : AD}  (h : Trace P F ops nt b true l m R s R2 s2) :
    ∃D:Ob,PT P F ops nt b l D∧D.R 0=R∧D.st 0=s∧D.R l.length=R2∧D.st l.length=s2 ∧
      (∀p i:Nat,l[p]? = some i→(D.sh p).isEff=true→D.want p=true→∀r∈m,(b.getD i 0).testBit r.idx=false→r.want=true→Ei r.sh r.aS (D.st (p+1))=some r.v):=by
  induction h with
  | nil =>
    rename_i m R s
    exact⟨⟨fun _=>R,fun _=>s,fun _=>default,fun _=>.callv,fun _=>false,fun _=>[],fun _=>Bo⟩,
      ⟨by intro p i h;simp at h,by intro p h;simp at h,by intro p q i j h;simp at h⟩,rfl,rfl,rfl,rfl,by intro p i h;simp at h⟩
  | cons ho hs ag hl ih =>
    rename_i i l m R R1 R2 s s1 s2 o sh want aS v
    obtain⟨D,h1,h2,h3,h4,h5,h6⟩:=ih
    refine⟨⟨IJ R D.R,IJ s D.st,IJ o D.o,IJ sh D.sh,IJ want D.want,IJ aS D.aS,IJ v D.v⟩,⟨?_,?_,?_⟩,rfl,rfl,h4,h5,?_⟩
    · intro p j hp
      cases p with
      | zero=>simp at hp;subst hp;exact ho
      | succ p=>exact h1.op p j (by simpa using hp)
    · intro p hp
      cases p with
      | zero=>simp only[IJ,h2,h3];exact hs
      | succ p=>exact h1.step p (by simpa using hp)
    · intro p q j k hp hq hlt he hw hr ht hwq
      cases p with
      | zero=>omega
      | succ p =>
        cases q with
        | zero =>
          simp at hq
          subst hq
          simp only[IJ]at hr hwq he hw ⊢
          refine h6 p j (by simpa using hp) he hw ⟨i,sh,aS,v,want⟩ ?_ ht hwq
          rw[hr]
          exact tS
        | succ q=>exact h1.ag p q j k (by simpa using hp) (by simpa using hq) (by omega) he hw hr ht hwq
    · intro p j hp he hw r hr ht hwr
      cases p with
      | zero =>
        simp at hp
        subst hp
        simp only[IJ,h3]at he hw ⊢
        exact ag rfl he hw r hr ht hwr
      | succ p =>
        refine h6 p j (by simpa using hp) he hw r ?_ ht hwr
        cases hb:(true && sh.isRead)with
        | true=>exact tW _ hr
        | false=>exact hr
theorem Lh{sh:Sh}{aS:List AV}{s:AD}{v:AV}(h:Ei sh aS s=some v):Kk sh aS s=some (v,s):=by
  cases sh with
  | r1 f =>
    cases aS with
    | nil=>cases h
    | cons a l =>
      cases l with
      | nil=>have h:f s a=some v:=h;simp[Kk,h,Dx]
      | cons=>cases h
  | r f=>have h:f s aS=some v:=h;simp[Kk,h,Dx]
  | _=>cases h
theorem Le          {P : Program} {R : Bw}   {o : Op} {sh : Sh} {xs : List Operand} {aS : List AV} {s s1 : AD}  {v : AV} (hsh : Az      P o = some (sh, xs)) (he : D7     R xs = some aS) (hr : sh.isRead = true) (h : Kk  sh aS s = some (v, s1)) :
    Ei sh aS s=some v∧s1=s:=by
  have one:∀x:Operand,xs=[x]→∃a,aS=[a]:=by
    intro x e
    subst e
    simp only[D7,tH]at he
    obtain⟨a,_,r,hr,he⟩:=he
    injection hr with hr
    injection he with he
    subst hr
    exact⟨a,he.symm⟩
  cases sh with
  | r1 f =>
    have:∃x,xs=[x]:=by
      cases o<;>first | (simp[Az]at hsh;done) | skip
      case binOp op t x y f =>
        simp only[Az]at hsh
        split at hsh<;>(injection hsh with hsh;injection hsh with h1 h2;cases h1)
      case load t a=>injection hsh with hsh;injection hsh with h1 h2;exact⟨_,h2.symm⟩
      case convert src dst x=>injection hsh with hsh;injection hsh with h1 h2;exact⟨_,h2.symm⟩
      case makeMap t r=>cases r with
        | some _=>cases hsh
        | none=>obtain⟨_,hsh⟩:=AA hsh;injection hsh with hsh;injection hsh with h1 h2;cases h1
      case lookup=>obtain⟨_,hsh⟩:=AA hsh;injection hsh with hsh;injection hsh with h1 h2;cases h1
      case mapUpdate=>obtain⟨_,hsh⟩:=AA hsh;injection hsh with hsh;injection hsh with h1 h2;cases h1
      case insert=>obtain⟨_,hsh⟩:=AA hsh;injection hsh with hsh;injection hsh with h1 h2;cases h1
      case makeFunc fn first captured=>cases fn<;>first | (cases hsh;done) | (injection hsh with hsh;injection hsh with h1 h2;cases h1)
      case call c =>
        obtain⟨callee,args,argTypes⟩:=c
        simp only[Az]at hsh
        split at hsh<;>first | (cases hsh;done) | (split at hsh<;>(cases hsh;done);done) | skip
        split at hsh<;>first | (cases hsh;done) | skip
        all_goals first | (split at hsh<;>cases hsh;done) | (split at hsh<;>first | (cases hsh;done) | (obtain⟨_,hsh⟩:=AA hsh;cases hsh;done))
    obtain⟨x,hx⟩:=this
    obtain⟨a,rfl⟩:=one x hx
    exact Vg h
  | r f=>exact PW h
  | _=>cases hr
section
variable{P:Program}{ρ ρ1 ρ2:A5}{s s1 s2:AD}{w w1 w2:World}{R:Bw}{a:Act}{ops:Array Oper}{rnd:Option Nat}{Q:Exit→Act→World→Prop}
theorem N0{F:DH}(h:As P ρ s w)(hf:ρ s.next=none){nt i:Nat}{o:Oper}{sh:Sh}{want:Bool}{aS:List AV}{v:AV}{R1:Bw}{K:Act→World→Prop}(ho:ops[i]? = some o)
  (hs:MM P F ops nt R s o sh want aS v R1 s1) (hne:sh.isEff=false) (hr:E5 ρ R a.tmps) (hnt:nt≤a.tmps.size)
  (hk:∀v' w' ρ',AM ρ' v v'→As P ρ' s1 w'→Fr ρ s w ρ' s1 w'→K (a.put o.dst v') w'):wpOpIn (JY rnd) 0 P ops Q i K a w:=by
 unfold wpOpIn
 rw[ho]
 simp only
 obtain⟨xs,hsh,has⟩:=hs.shape
 rw[Pj hr hs.wants]
 cases want with
 | true =>
  simp only[if_true]
  refine⟨fun _ _=>trivial,?_⟩
  rw[Oper.semAt_eq _ _ _ (PH hsh)]
  have hl:Kk sh aS s=some (v,s1):=by
   have:=hs.yes rfl
   cases sh<;>first | exact this | cases hne
  exact PG (nT h hf (fun _=>rfl) hsh (Kg hr has) hl).next hk
 | false =>
  simp only[Bool.false_eq_true,if_false]
  refine⟨fun _ _=>trivial,?_⟩
  obtain⟨rfl,rfl⟩:=hs.no rfl
  exact hk undef w ρ (DC ρ) h (Fr.refl _ _ _)
theorem kg{o:Op}{f:List AV→Option (AI×Made)}{xs:List Operand}{aS:List AV}{ob:AI}{m:Made}(hsh:Az P o=some (.mk f,xs))(h:f aS=some (ob,m)):EY ob=none:=by
 cases o<;>first | (simp[Az]at hsh;done) | skip
 case binOp op t x y f =>
  simp only[Az]at hsh
  split at hsh<;>(injection hsh with hsh;injection hsh with h1 h2;cases h1)
 case alloc e =>
  injection hsh with hsh;injection hsh with h1 h2;injection h1 with h1;subst h1
  simp only at h
  split at h<;>first | (cases h;done) | skip
  simp only[At,tH]at h
  obtain⟨z,_,h⟩:=h
  injection h with h;injection h with h h';subst h;rfl
 case box e x =>
  injection hsh with hsh;injection hsh with h1 h2;injection h1 with h1;subst h1
  simp only at h
  split at h<;>first | (cases h;done) | skip
  injection h with h;injection h with h h';subst h;rfl
 case buildSlice t len ps =>
  injection hsh with hsh;injection hsh with h1 h2;injection h1 with h1;subst h1
  simp only[tH]at h
  obtain⟨r,hr,h⟩:=h
  injection h with h;injection h with h h';subst h
  unfold An at hr
  split at hr<;>first | (cases hr;done) | skip
  simp only[tH]at hr
  obtain⟨n,_,hr⟩:=hr
  obtain⟨_,hr⟩:=AA hr
  simp only[tH]at hr
  obtain⟨z,_,hr⟩:=hr
  obtain⟨_,hr⟩:=AA hr
  simp only[tH]at hr
  obtain⟨l,_,hr⟩:=hr
  injection hr with hr;subst hr;rfl
 case makeMap t r =>
  cases r with
  | some _=>cases hsh
  | none =>
   obtain⟨_,hsh⟩:=AA hsh
   injection hsh with hsh;injection hsh with h1 h2;injection h1 with h1;subst h1
   simp only at h
   split at h<;>first | (cases h;done) | skip
   simp only[tH]at h
   obtain⟨kt,_,h⟩:=h
   injection h with h;injection h with h h';subst h;rfl
 case makeSlice t l c =>
  injection hsh with hsh;injection hsh with h1 h2;injection h1 with h1;subst h1
  unfold Xx at h
  split at h<;>first | (cases h;done) | skip
  unfold B6 at h
  split at h<;>first | (cases h;done) | skip
  simp only[tH]at h
  obtain⟨by_,_,n,_,h⟩:=h
  obtain⟨_,h⟩:=AA h
  simp only[tH]at h
  obtain⟨z,_,h⟩:=h
  obtain⟨_,h⟩:=AA h
  injection h with h;injection h with h h';subst h;rfl
 case makeFunc fn first captured=>cases fn<;>first | (cases hsh;done) | (injection hsh with hsh;injection hsh with h1 h2;cases h1)
 case call c =>
  obtain⟨callee,args,argTypes⟩:=c
  simp only[Az]at hsh
  split at hsh<;>first | (cases hsh;done) | (split at hsh<;>(cases hsh;done);done) | skip
  split at hsh<;>first | (cases hsh;done) | (split at hsh<;>first | (cases hsh;done) | (obtain⟨_,hsh⟩:=AA hsh;cases hsh;done))
 all_goals first | (cases hsh;done) | (obtain⟨_,hsh⟩:=AA hsh;cases hsh;done)
theorem As.same(h:As P ρ s w)(e:∀i rb,ρ i=some rb→s1.heap.get i=s.heap.get i)(hu:∀i o g,s1.heap.get i=some o→EY o=some g→∃rb,ρ i=some rb):As P ρ s1 w:=
  ⟨fun i o rb hi hr=>h.obj i o rb (by rw[← e i rb hr];exact hi) hr,h.lt,
   fun i j oi oj ri rj hne hi hj hri hrj=>h.sep i j oi oj ri rj hne (by rw[← e i ri hri];exact hi) (by rw[← e j rj hrj];exact hj) hri hrj,hu⟩
theorem Ee.same{b:Nat}(e:∀i rb,ρ i=some rb→s1.heap.get i=s.heap.get i)(h:Ee ρ s1 b):Ee ρ s b:=by
 obtain⟨i,o,rb,h1,h2,h3,h4⟩:=h
 exact⟨i,o,rb,by rw[← e i rb h3];exact h1,h2,h3,h4⟩
end
def Dn(π:List Nat)(listed:Array Bool)(p:Nat):Prop:=∃i:Nat,π[p]? = some i∧listed[i]? = some true
def Sh.isMk:Sh→Bool
 | .mk _=>true
 | _=>false
theorem VU{P:Program}{ops:Array Oper}{b:Array Nat}{π:List Nat}(h:Ea P ops b [] π=true):∀p i j:Nat,π[p]? = some i→j<ops.size→(b.getD i 0).testBit j=true→∃q:Nat,q<p∧π[q]? = some j:=by
 intro p i j hp hj ht
 have:=(Nh h).2 p i hp
 unfold Kn at this
 simp only[Bool.and_eq_true,uR,Bool.or_eq_true,Bool.not_eq_true']at this
 have:=this.1.1.1.1.2 j (List.mem_range.2 hj)
 rcases this with h' | h'
 ·rw[ht]at h';cases h'
 ·simpa using Ft.1 (List.contains_iff_mem.1 h')
theorem PT.regs_at {P : Program} {F : DH}  {ops : Array Oper} {nt : Nat} {b : Array Nat} {π : List Nat} {D : Ob}    (ht : PT P F ops nt b π D) : ∀ p, p ≤ π.length → ∀ t x, D.R p t = some x →
    (∃q,q<p∧(D.o q).dst=some t∧x=D.v q)∨((∀q,q<p→(D.o q).dst≠some t)∧D.R 0 t=some x):=by
  intro p
  induction p with
  | zero=>intro _ t x h;exact .inr ⟨fun q hq=>by omega,h⟩
  | succ p ih =>
    intro hp t x h
    rw[(ht.step p (by omega)).put]at h
    have old:D.R p t=some x→(D.o p).dst≠some t→(∃q,q<p+1∧(D.o q).dst=some t∧x=D.v q)∨((∀q,q<p+1→(D.o q).dst≠some t)∧D.R 0 t=some x):=by
      intro h hne
      rcases ih (by omega) t x h with⟨q,h1,h2,h3⟩ | ⟨h1,h2⟩
      · exact .inl ⟨q,by omega,h2,h3⟩
      · refine .inr ⟨fun q hq => ?_, h2⟩
        rcases tL q p with h' | h'
        · exact h1 q h'
        · have:q=p:=by omega
          subst this;exact hne
    cases hd:(D.o p).dst with
    | none=>rw[hd]at h;exact old h (by rw[hd];simp)
    | some d =>
      rw[hd]at h
      by_cases e:t=d
      · subst e
        simp only[Bw.put,if_true,Option.some.injEq]at h
        exact .inl ⟨p,by omega,hd,h.symm⟩
      · simp only[Bw.put,if_neg e]at h
        exact old h (by rw[hd];intro e';injection e' with e';exact e e'.symm)
theorem Ju{R R':Bw}:∀ {xs:List Operand},(∀t,Operand.tmp t∈xs→R' t=R t)→D7 R' xs=D7 R xs
 | [],_=>rfl
 | x::l,h=>by
  have h1:TR R' x=TR R x:=by
   cases x with
   | tmp t=>exact h t tS
   | _=>rfl
  simp only[D7,h1,Ju fun t ht=>h t (tW _ ht)]
structure DJ(P:Program)(ops:Array Oper)(b:Array Nat)(π:List Nat)(D:Ob)(ρ0:A5)(w0:World)(a0:Act)(listed:Array Bool)(k:Nat)(ρ:A5)(a:Act)(w:World):Prop where
 lsz:listed.size=ops.size
 kle:k≤π.length
 dlt:∀p,Dn π listed p→p<k
 eff:∀p,p<k→(D.sh p).isEff=true→Dn π listed p
 anc:∀p i:Nat,π[p]? = some i→Dn π listed p→∀j:Nat,j<ops.size→(b.getD i 0).testBit j=true→listed[j]? = some true
 inv:As P ρ (D.st k) w
 fresh:Ah ρ (D.st k)
 fr:Fr ρ0 (D.st 0) w0 ρ (D.st k) w
 unb:∀p,p<k→¬ Dn π listed p→D.want p=true→∀f,D.sh p=.mk f→∃ob m,f (D.aS p)=some (ob,m)∧D.v p=m.val (D.st p).next∧ρ (D.st p).next=none ∧
  (D.st k).heap.get (D.st p).next=some ob∧(D.st 0).next≤(D.st p).next∧(D.st p).next<(D.st k).next
 dis:∀p q,p<q→q<k→¬ Dn π listed p→¬ Dn π listed q→D.want p=true→D.want q=true→(D.sh p).isMk=true→(D.sh q).isMk=true→(D.st p).next≠(D.st q).next
 rds:∀q,q<k→¬ Dn π listed q→D.want q=true→(D.sh q).isRead=true→Ei (D.sh q) (D.aS q) (D.st k)=some (D.v q)
 sz:a.tmps.size=a0.tmps.size
 dfr:a.defers=a0.defers
 rw:∀p,Dn π listed p→∀d,(D.o p).dst=some d→AM ρ (D.v p) (a.tmps.getD d undef)
 ri:∀t,(∀p,Dn π listed p→(D.o p).dst≠some t)→∀x,D.R 0 t=some x→AM ρ x (a.tmps.getD t undef)
section
variable{P:Program}{F:DH}{ops:Array Oper}{nt:Nat}{b:Array Nat}{π:List Nat}{D:Ob}{ρ0 ρ ρ1:A5}{w0 w w1:World}{a0 a:Act}{listed:Array Bool}{k:Nat}{rnd:Option Nat}{Q:Exit→Act→World→Prop}
theorem DJ.adv1 (ht : PT P F ops nt b π D) (J : DJ P ops b π D ρ0 w0 a0 listed k ρ a w) (hk : k < π.length) (hne : (D.sh k).isEff = false) : DJ P ops b π D ρ0 w0 a0 listed (k + 1) ρ a w := by
  have hs:=ht.step k hk
  obtain⟨xs,hsh,has⟩:=hs.shape
  have lt1:∀p,Dn π listed p→p<k+1:=fun p h=>um (J.dlt p h)
  have eff1:∀p,p<k+1→(D.sh p).isEff=true→Dn π listed p:=by
    intro p hp he
    rcases tL p k with h' | h'
    · exact J.eff p h' he
    · have:p=k:=by omega
      subst this;rw[he]at hne;cases hne
  have key:(D.st (k+1)=D.st k∧((D.sh k).isMk=true→D.want k=false)∧((D.sh k).isRead=true→D.want k=true→Ei (D.sh k) (D.aS k) (D.st k)=some (D.v k))) ∨
      ∃f ob m,D.sh k=.mk f∧D.want k=true∧f (D.aS k)=some (ob,m)∧D.v k=m.val (D.st k).next∧D.st (k+1)=newObj (D.st k) ob:=by
    cases hw:D.want k with
    | false =>
      obtain⟨_,h2⟩:=hs.no hw
      exact .inl ⟨h2,fun _=>rfl,fun _ e=>by cases e⟩
    | true =>
      have hy:=hs.yes hw
      cases he:D.sh k with
      | p1 f =>
        rw[he]at hy
        have hy:Kk (.p1 f) (D.aS k) (D.st k)=some (D.v k,D.st (k+1)):=hy
        refine .inl ⟨?_,fun e=>(by cases e),fun e=>(by cases e)⟩
        simp only[Kk]at hy
        split at hy<;>first | (cases hy;done) | exact(B7 hy).2
      | p2 f =>
        rw[he]at hy
        have hy:Kk (.p2 f) (D.aS k) (D.st k)=some (D.v k,D.st (k+1)):=hy
        refine .inl ⟨?_,fun e=>(by cases e),fun e=>(by cases e)⟩
        simp only[Kk]at hy
        split at hy<;>first | (cases hy;done) | exact(B7 hy).2
      | p f=>rw[he]at hy;exact .inl ⟨(Nv (show Kk (.p f) _ _=_ from hy)).2,fun e=>(by cases e),fun e=>(by cases e)⟩
      | r1 f =>
        rw[he]at hy hsh
        have:=Le hsh has rfl (show Kk (.r1 f) _ _=_ from hy)
        exact .inl ⟨this.2,fun e=>(by cases e),fun _ _=>this.1⟩
      | r f =>
        rw[he]at hy hsh
        have:=Le hsh has rfl (show Kk (.r f) _ _=_ from hy)
        exact .inl ⟨this.2,fun e=>(by cases e),fun _ _=>this.1⟩
      | mk f =>
        rw[he]at hy
        obtain⟨ob,m,h1,h2,h3⟩:=Kl (show Kk (.mk f) _ _=_ from hy)
        exact .inr ⟨f,ob,m,rfl,rfl,h1,h2,h3⟩
      | e f=>rw[he]at hne;cases hne
      | call f=>rw[he]at hne;cases hne
      | callv=>rw[he]at hne;cases hne
  have ndk:¬ Dn π listed k:=fun h=>absurd (J.dlt k h) (Nat.lt_irrefl k)
  have split1:∀p,p<k+1→p<k∨p=k:=fun p h=>by omega
  rcases key with⟨e,hm,hrd⟩ | ⟨f,ob,m,he,hw,h1,h2,e⟩
  · refine ⟨J.lsz, hk, lt1, eff1, J.anc, by rw [e]; exact J.inv, by rw [e]; exact J.fresh, by rw [e]; exact J.fr, ?_, ?_, ?_, J.sz, J.dfr, J.rw, J.ri⟩
    · intro p hp hd hw f hf
      rcases split1 p hp with h' | rfl
      · rw[e];exact J.unb p h' hd hw f hf
      · rw[hm (by rw[hf];rfl)]at hw;cases hw
    · intro p q hpq hq d1 d2 w1 w2 m1 m2
      rcases split1 q hq with h' | rfl
      · exact J.dis p q hpq h' d1 d2 w1 w2 m1 m2
      · rw[hm m2]at w2;cases w2
    · intro q hq hd hw hr
      rw[e]
      rcases split1 q hq with h' | rfl
      · exact J.rds q h' hd hw hr
      · exact hrd hr hw
  · have hfr := J.fresh (D.st k).next (tJ          _)
    have hg:∀i,i≠(D.st k).next→(newObj (D.st k) ob).heap.get i=(D.st k).heap.get i:=fun i hi=>by rw[Ai,if_neg hi]
    have hsame:∀i rb,ρ i=some rb→(newObj (D.st k) ob).heap.get i=(D.st k).heap.get i:=fun i rb hi=>hg i (fun q=>by subst q;rw[hfr.1]at hi;cases hi)
    refine⟨J.lsz,hk,lt1,eff1,J.anc,?_,?_,?_,?_,?_,?_,J.sz,J.dfr,J.rw,J.ri⟩
    · rw [e]
      refine J.inv.same hsame fun i o g hi hgo=>?_
      by_cases ei:i=(D.st k).next
      · subst ei
        rw[Ai,if_pos rfl]at hi
        injection hi with hi
        subst hi
        obtain⟨xs,hsh,_⟩:=(ht.step k hk).shape
        rw[he]at hsh
        rw[kg hsh h1]at hgo
        cases hgo
      · rw[hg i ei]at hi
        exact J.inv.glb i o g hi hgo
    · rw[e]
      intro i hi
      have hi:(D.st k).next+1≤i:=hi
      have:=J.fresh i (by omega)
      exact⟨this.1,by rw[hg i (by omega)];exact this.2⟩
    · rw [e]
      refine⟨J.fr.le,fun i hi h'=>J.fr.fresh i hi (h'.imp id fun(h'':(D.st k).next+1≤i)=>by omega),Nat.le_succ_of_le J.fr.next,J.fr.size,J.fr.os,J.fr.tape,J.fr.output,J.fr.keep,fun bb hb=>J.fr.own bb (hb.same hsame),?_,J.fr.blk,fun i oi rb hi h0=>(by
        by_cases ei:i=(D.st k).next
        · subst ei;have h1:=J.fr.le _ _ h0;rw[(J.fresh _ (tJ _)).1]at h1;cases h1
        · rw[hg i ei]at hi;exact J.fr.dom i oi rb hi h0)⟩
      intro i hi h'
      have hn:i≠(D.st k).next:=by
        have:=J.fr.next
        rcases h' with h' | h'
        · omega
        · have h':(D.st k).next+1≤i:=h'
          omega
      rw[hg i hn]
      exact J.fr.unborn i hi (h'.imp id fun(h'':(D.st k).next+1≤i)=>by omega)
    · intro p hp hd hw' f' hf
      rw[e]
      rcases split1 p hp with h' | rfl
      · obtain⟨ob',m',g1,g2,g3,g4,g5,g6⟩:=J.unb p h' hd hw' f' hf
        exact⟨ob',m',g1,g2,g3,by rw[hg _ (by omega)];exact g4,g5,um g6⟩
      · rw[he]at hf
        injection hf with hf
        subst hf
        exact⟨ob,m,h1,h2,hfr.1,by rw[Ai,if_pos rfl],J.fr.next,t6 _⟩
    · intro p q hpq hq d1 d2 w1 w2 m1 m2
      rcases split1 q hq with h' | rfl
      · exact J.dis p q hpq h' d1 d2 w1 w2 m1 m2
      · cases hsp:D.sh p with
        | mk fp=>obtain⟨_,_,_,_,_,_,_,g6⟩:=J.unb p hpq d1 w1 fp hsp;omega
        | _=>rw[hsp]at m1;cases m1
    · intro q hq hd hw' hr
      rw[e]
      rcases split1 q hq with h' | rfl
      · obtain⟨xq,hq1,_⟩:=(ht.step q (by omega)).shape
        exact ZK (AD.sub_new hfr.2 ob) hq1 (J.rds q h' hd hw' hr)
      · rw[he]at hr;cases hr
theorem DJ.adv(ht:PT P F ops nt b π D):∀ (n k:Nat),n=π.length - k→DJ P ops b π D ρ0 w0 a0 listed k ρ a w→∃k',DJ P ops b π D ρ0 w0 a0 listed k' ρ a w∧(k'=π.length∨(D.sh k').isEff=true):=by
 intro n
 induction n with
 | zero=>intro k hn J;exact⟨k,J,.inl (by have:=J.kle;omega)⟩
 | succ n ih =>
  intro k hn J
  cases he:(D.sh k).isEff with
  | true=>exact⟨k,J,.inr he⟩
  | false=>exact ih (k+1) (by omega) (J.adv1 ht (by omega) he)
theorem ol(hp:KD P ops b π){p i q:Nat}(hi:π[p]? = some i)(hl:listed.size=ops.size):Dn π (listed.setIfInBounds i true) q↔Dn π listed q∨q=p:=by
  have hlt:=hp.lt p i hi
  constructor
  · rintro⟨j,h1,h2⟩
    by_cases e:j=i
    · subst e;exact .inr (hp.inj q p j h1 hi)
    · rw[Array.getElem?_setIfInBounds_ne (Ne.symm e)]at h2
      exact .inl ⟨j,h1,h2⟩
  · rintro (⟨j, h1, h2⟩ | rfl)
    · refine⟨j,h1,?_⟩
      by_cases e:j=i
      · subst e;simp[hl,hlt]
      · rw[Array.getElem?_setIfInBounds_ne (Ne.symm e)];exact h2
    · exact⟨i,hi,by simp[hl,hlt]⟩
theorem PO{a:Act}{d' d:Tmp}{v:Value}(h:d'≠d):(a.put (some d') v).tmps.getD d undef=a.tmps.getD d undef:=by
 simp[Act.put,Array.getD_eq_getD_getElem?,Array.getElem?_setIfInBounds_ne h]
theorem DJ.put (ht : PT P F ops nt b π D) (hp : KD     P ops b π) (hnt : nt ≤ a0.tmps.size) (J : DJ P ops b π D ρ0 w0 a0 listed k ρ a w) {p i k' : Nat} (hi : π[p]? = some i) (hnd : ¬ Dn π listed p) (hpk : p < k') (hkk : k ≤ k') (hk'' : ∀ q, q < k' → q = p ∨ q < k) (hkn : k' ≤ π.length)
    (hanc:∀j:Nat,j<ops.size→(b.getD i 0).testBit j=true→listed[j]? = some true) {v':Value} (hv:AM ρ1 (D.v p) v') (le:ρ.le ρ1)
    (inv:As P ρ1 (D.st k') w1) (fresh:Ah ρ1 (D.st k')) (fr:Fr ρ0 (D.st 0) w0 ρ1 (D.st k') w1)
    (unb:∀q,q<k→q≠p→¬ Dn π listed q→D.want q=true→∀f,D.sh q=.mk f→ρ1 (D.st q).next=none∧(D.st k').heap.get (D.st q).next=(D.st k).heap.get (D.st q).next∧(D.st q).next<(D.st k').next)
    (rds:∀q,q<k→q≠p→¬ Dn π listed q→D.want q=true→(D.sh q).isRead=true→Ei (D.sh q) (D.aS q) (D.st k')=some (D.v q)):
    DJ P ops b π D ρ0 w0 a0 (listed.setIfInBounds i true) k' ρ1 (a.put (D.o p).dst v') w1:=by
  have hlt:=hp.lt p i hi
  have hpl:p<π.length:=by omega
  have dn:=fun q=>ol (listed:=listed) (q:=q) hp hi J.lsz
  have up:∀j:Nat,listed[j]? = some true→(listed.setIfInBounds i true)[j]? = some true:=by
    intro j h
    by_cases e:j=i
    · subst e;simp[J.lsz,hlt]
    · rw[Array.getElem?_setIfInBounds_ne (Ne.symm e)];exact h
  have uniq:∀q r d,q<r→r<π.length→(D.o q).dst=some d→(D.o r).dst=some d→False:=by
    intro q r d hqr hr h1 h2
    have hr':=tQ hr
    have hq':=tQ (show q<π.length by omega)
    exact(hp.wdst r q _ _ _ _ d hr' hq' hqr (ht.op r _ hr') (ht.op q _ hq') h2).1 h1
  have nd:∀q,¬ Dn π (listed.setIfInBounds i true) q→¬ Dn π listed q∧q≠p:=fun q h=>⟨fun h'=>h ((dn q).2 (.inl h')),fun h'=>h ((dn q).2 (.inr h'))⟩
  refine⟨by simp[J.lsz],hkn,?_,?_,?_,inv,fresh,fr,?_,?_,?_,by rw[BH];exact J.sz,by rw[Bt];exact J.dfr,?_,?_⟩
  · intro q hq
    rcases(dn q).1 hq with h' | rfl
    · exact tO (J.dlt q h') hkk
    · exact hpk
  · intro q hq he
    rcases hk'' q hq with rfl | h'
    · exact(dn q).2 (.inr rfl)
    · exact(dn q).2 (.inl (J.eff q h' he))
  · intro q j hj hq l hl hb
    rcases(dn q).1 hq with h' | rfl
    · exact up l (J.anc q j hj h' l hl hb)
    · rw[hi]at hj
      injection hj with hj
      subst hj
      exact up l (hanc l hl hb)
  · intro q hq hd hw f hf
    obtain⟨d1,d2⟩:=nd q hd
    have hqk:=(hk'' q hq).resolve_left d2
    obtain⟨ob,m,g1,g2,g3,g4,g5,g6⟩:=J.unb q hqk d1 hw f hf
    obtain⟨u1,u2,u3⟩:=unb q hqk d2 d1 hw f hf
    exact⟨ob,m,g1,g2,u1,by rw[u2];exact g4,g5,u3⟩
  · intro q r hqr hr d1 d2 w1 w2 m1 m2
    obtain⟨d1,e1⟩:=nd q d1
    obtain⟨d2,e2⟩:=nd r d2
    exact J.dis q r hqr ((hk'' r hr).resolve_left e2) d1 d2 w1 w2 m1 m2
  · intro q hq hd hw hr
    obtain⟨d1,d2⟩:=nd q hd
    exact rds q ((hk'' q hq).resolve_left d2) d2 d1 hw hr
  · intro q hq d hd
    rcases(dn q).1 hq with h' | rfl
    · have hqn : q < π.length := tO                 (J.dlt q h') J.kle
      have hne:(D.o p).dst≠some d:=by
        intro e
        rcases un q p with h'' | h'' | h''
        · exact uniq q p d h'' hpl hd e
        · subst h'';exact hnd h'
        · exact uniq p q d h'' hqn e hd
      have:=(J.rw q h' d hd).mono le
      cases hdp:(D.o p).dst with
      | none=>exact this
      | some d' =>
        rw[PO fun e=>hne (by rw[hdp,e])]
        exact this
    · have hd':d<a.tmps.size:=by
        rw[J.sz];exact tO ((ht.step q hpl).lt d hd) hnt
      rw[hd]
      simpa[Act.put,Array.getD_eq_getD_getElem?,hd']using hv
  · intro t hq x hx
    have hne:(D.o p).dst≠some t:=hq p ((dn p).2 (.inr rfl))
    have:=(J.ri t (fun q h'=>hq q ((dn q).2 (.inl h'))) x hx).mono le
    cases hdp:(D.o p).dst with
    | none=>exact this
    | some d' =>
      rw[PO fun e=>hne (by rw[hdp,e])]
      exact this
end
section
variable{P:Program}{F:DH}{ops:Array Oper}{nt:Nat}{b:Array Nat}{π:List Nat}{D:Ob}{ρ0 ρ ρ1:A5}{w0 w w1:World}{a0 a:Act}{listed:Array Bool}{k:Nat}{rnd:Option Nat}{Q:Exit→Act→World→Prop}
theorem DJ.ahead(hp:KD P ops (Region.before ops) π)(J:DJ P ops (Region.before ops) π D ρ0 w0 a0 listed k ρ a w){p i:Nat}(hi:π[p]? = some i){o:Oper}(ho:ops[i]? = some o)
  (hr:∀e∈o.after,Region.binds .any e=true→listed.getD e.on false=true):∀j:Nat,j<ops.size→((Region.before ops).getD i 0).testBit j=true→listed[j]? = some true:=by
 intro j hj ht
 have lst:∀x:Nat,listed.getD x false=true→listed[x]? = some true:=by
  intro x hx
  rw[Array.getD_eq_getD_getElem?]at hx
  cases h:listed[x]? with
  | none=>rw[h]at hx;cases hx
  | some v=>rw[h]at hx;simp at hx;rw[hx]
 obtain⟨o',ho',e,he,hb,h'⟩:=SK ops i j ht
 rw[ho]at ho'
 injection ho' with ho'
 subst ho'
 have hl:=lst _ (hr e he hb)
 rcases h' with rfl | h'
 ·exact hl
 ·obtain⟨q,_,hq⟩:=hp.edge p i o hi ho e he hb
  exact J.anc q e.on hq ⟨e.on,hq,hl⟩ j hj h'
def TA(P:Program)(ops:Array Oper)(o:Oper)(t:Tmp):Prop:=t∈EF P o∨∃ (j:Nat)(want:Bool)(u:Oper),o.guard=some (j,want)∧ops[j]? = some u∧u.dst=some t
open Classical in
def Lm (P:Program) (ops:Array Oper) (o:Oper) (R:Bw):Bw:=fun t=>if TA P ops o t then R t else none
theorem Tw{o:Oper}{R:Bw}{t:Tmp}(h:TA P ops o t):Lm P ops o R t=R t:=by unfold Lm;rw[if_pos h]
theorem Vt{o:Oper}{R:Bw}:KA ops (Lm P ops o R) o=KA ops R o:=by
 unfold KA
 cases hg:o.guard with
 | none=>rfl
 | some g =>
  obtain⟨j,want⟩:=g
  simp only
  cases hj:ops[j]? with
  | none=>rfl
  | some u =>
   cases hd:u.dst with
   | none=>simp[hd]
   | some d=>simp only[Option.bind_some,hd];rw[Tw (.inr ⟨j,want,u,hg,hj,hd⟩)]
theorem DJ.view (ht : PT P F ops nt (Region.before ops) π D) (hpl : Ea     P ops (Region.before ops) [] π = true) (hr0 : E5   ρ0 (D.R 0) a0.tmps) (hnt : nt ≤ a0.tmps.size)
    (J:DJ P ops (Region.before ops) π D ρ0 w0 a0 listed k ρ a w) {p i:Nat} (hi:π[p]? = some i) (hnd:¬ Dn π listed p)
    (hanc:∀j:Nat,j<ops.size→((Region.before ops).getD i 0).testBit j=true→listed[j]? = some true):E5 ρ (Lm P ops (D.o p) (D.R p)) a.tmps:=by
  have hp:=Kf hpl
  have hlt:=hp.lt p i hi
  have hpn:p<π.length:=by
    rcases tL p π.length with h' | h'
    · exact h'
    · rw[tY h']at hi;cases hi
  have hoi:=ht.op p i hi
  have place:∀ (q:Nat) (h:q<π.length),π[q]? = some π[q]:=fun q hq=>tQ hq
  have uniq:∀q r d,q<π.length→r<π.length→(D.o q).dst=some d→(D.o r).dst=some d→q=r:=by
    have one:∀q r d,q<r→r<π.length→(D.o q).dst=some d→(D.o r).dst=some d→False:=by
      intro q r d hqr hr h1 h2
      exact(hp.wdst r q _ _ _ _ d (place r hr) (place q (by omega)) hqr (ht.op r _ (place r hr)) (ht.op q _ (place q (by omega))) h2).1 h1
    intro q r d hq hr h1 h2
    rcases un q r with h' | h' | h'
    · exact(one q r d h' hr h1 h2).elim
    · exact h'
    · exact(one r q d h' hq h2 h1).elim
  intro t x hx
  unfold Lm at hx
  split at hx
  · rename_i hn
    have gd:∀ (j:Nat) (want:Bool) (u:Oper),(D.o p).guard=some (j,want)→ops[j]? = some u→u.dst=some t→∃q,q<p∧Dn π listed q∧(D.o q).dst=some t:=by
      intro j want u h1 h2 h3
      have hj:j<ops.size:=by
        rcases tL j ops.size with h' | h'
        · exact h'
        · rw[Array.getElem?_eq_none h']at h2;cases h2
      have hb:=hp.guard p i (D.o p) j want hi hoi h1
      obtain⟨q,hqp,hq⟩:=VU hpl p i j hi hj hb
      refine⟨q,hqp,⟨j,hq,hanc j hj hb⟩,?_⟩
      have:=ht.op q j hq
      rw[h2]at this
      injection this with this
      rw[← this];exact h3
    have fin:∀ {y:AV},AM ρ y (a.tmps.getD t undef)→t<a0.tmps.size→t<a.tmps.size∧AM ρ y (a.tmps.getD t undef):=fun h1 h2=>⟨by rw[J.sz];exact h2,h1⟩
    rcases ht.regs_at p (Nat.le_of_lt hpn) t x hx with⟨q,hq,hd,rfl⟩ | ⟨hno,h0⟩
    · have hqn : q < π.length := by omega
      have dq:Dn π listed q:=by
        rcases hn with hn | ⟨j,want,u,h1,h2,h3⟩
        · have hb:=hp.rdst p q i _ _ _ t hi (place q hqn) hq hoi (ht.op q _ (place q hqn)) hd hn
          exact⟨π[q],place q hqn,hanc _ (hp.lt q _ (place q hqn)) hb⟩
        · obtain⟨r,hr1,hr2,hr3⟩:=gd j want u h1 h2 h3
          have:=uniq q r t hqn (by omega) hd hr3
          subst this;exact hr2
      exact fin (J.rw q dq t hd) (tO ((ht.step q hqn).lt t hd) hnt)
    · refine fin (J.ri t ?_ x h0) (hr0 t x h0).1
      intro q dq hd
      have hqn:q<π.length:=tO (J.dlt q dq) J.kle
      have hpq:p<q:=by
        rcases un q p with h' | h' | h'
        · exact absurd hd (hno q h')
        · subst h';exact absurd dq hnd
        · exact h'
      rcases hn with hn | ⟨j,want,u,h1,h2,h3⟩
      · have hb:=(hp.wdst q p _ i _ _ t (place q hqn) hi hpq (ht.op q _ (place q hqn)) hoi hd).2 hn
        exact hnd ⟨i,hi,J.anc q _ (place q hqn) dq i hlt hb⟩
      · obtain⟨r,hr1,hr2,hr3⟩:=gd j want u h1 h2 h3
        exact absurd hr3 (hno r hr1)
  · cases hx
theorem QT{o:Oper}{sh:Sh}{xs:List Operand}(h:Az P o.op=some (sh,xs)):M1 P o=sh.isEff:=by unfold M1;rw[h]
theorem DJ.run (hF : i6  P F) (ht : PT P F ops nt (Region.before ops) π D) (hpl : Ea     P ops (Region.before ops) [] π = true) (hr0 : E5   ρ0 (D.R 0) a0.tmps) (hnt : nt ≤ a0.tmps.size)
    (J:DJ P ops (Region.before ops) π D ρ0 w0 a0 listed k ρ a w) (htop:k=π.length∨(D.sh k).isEff=true) {p i:Nat} (hi:π[p]? = some i) (hnd:¬ Dn π listed p)
    (hanc:∀j:Nat,j<ops.size→((Region.before ops).getD i 0).testBit j=true→listed[j]? = some true) {K:Act→World→Prop}
    (hK:∀k' ρ' a' w',DJ P ops (Region.before ops) π D ρ0 w0 a0 (listed.setIfInBounds i true) k' ρ' a' w'→K a' w'):wpOpIn (JY rnd) 0 P ops Q i K a w:=by
  have hp:=Kf hpl
  have hpn:p<π.length:=by
    rcases tL p π.length with h' | h'
    · exact h'
    · rw[tY h']at hi;cases hi
  have place:∀ (q:Nat) (h:q<π.length),π[q]? = some π[q]:=fun q hq=>tQ hq
  have hoi:=ht.op p i hi
  have hs:=ht.step p hpn
  obtain⟨xs,hsh,has⟩:=hs.shape
  have hv:=J.view ht hpl hr0 hnt hi hnd hanc
  have hkp:p≤k:=by
    rcases tL k p with h' | h'
    · have hkn : k < π.length := by omega
      have he:(D.sh k).isEff=true:=htop.resolve_left (by omega)
      obtain⟨xk,hk1,_⟩:=(ht.step k hkn).shape
      have hb:=hp.eff p k i _ _ hi (place k hkn) h' (ht.op k _ (place k hkn)) (by rw[QT hk1];exact he)
      have:=J.dlt k ⟨π[k],place k hkn,hanc _ (hp.lt k _ (place k hkn)) hb⟩
      omega
    · exact h'
  have hno:p<k→(D.sh p).isEff=false:=fun h'=>by
    cases he:(D.sh p).isEff with
    | false=>rfl
    | true=>exact absurd (J.eff p h' he) hnd
  have hnt':nt≤a.tmps.size:=by rw[J.sz];exact hnt
  have has':D7 (Lm P ops (D.o p) (D.R p)) xs=some (D.aS p):=by
    rw[Ju fun t htx=>Tw (.inl (Y9 hsh htx))];exact has
  have sok:∀ {s s1:AD},(D.want p=true→iy F (D.sh p) (D.aS p) s=some (D.v p,s1))→(D.want p=false→s1=s) →
      MM P F ops nt (Lm P ops (D.o p) (D.R p)) s (D.o p) (D.sh p) (D.want p) (D.aS p) (D.v p) ((Lm P ops (D.o p) (D.R p)).put (D.o p).dst (D.v p)) s1:=fun h1 h2 =>
    ⟨⟨xs,hsh,has'⟩,by rw[Vt];exact hs.wants,rfl,hs.lt,h1,fun hw=>⟨(hs.no hw).1,h2 hw⟩⟩
  rcases tL p k with hlt | hge
  ·
    have hne:=hno hlt
    have same:∀ {v':Value} {w':World} {ρ':A5},AM ρ' (D.v p) v'→As P ρ' (D.st k) w'→Fr ρ (D.st k) w ρ' (D.st k) w'→K (a.put (D.o p).dst v') w':=by
      intro v' w' ρ' h1 h2 h3
      refine hK k ρ' _ w' (J.put ht hp hnt hi hnd hlt (tJ k) (fun q hq=>.inr hq) J.kle hanc h1 h3.le h2 (J.fresh.step h3) (J.fr.trans h3) ?_ ?_)
      · intro q hq _ hd hw f hf
        obtain⟨ob,m,g1,g2,g3,g4,g5,g6⟩:=J.unb q hq hd hw f hf
        exact⟨h3.fresh _ g3 (.inl g6),rfl,g6⟩
      · intro q hq _ hd hw hr
        exact J.rds q hq hd hw hr
    have quiet:(D.want p=true→iy F (D.sh p) (D.aS p) (D.st k)=some (D.v p,D.st k))→wpOpIn (JY rnd) 0 P ops Q i K a w:=fun hy =>
      N0 J.inv (J.fresh _ (tJ _)).1 hoi (sok hy fun _=>rfl) hne hv hnt' fun v' w' ρ' h1 h2 h3=>same h1 h2 h3
    cases hw:D.want p with
    | false=>exact quiet (fun e=>by rw[hw]at e;cases e)
    | true =>
      have hy:=hs.yes hw
      cases he:D.sh p with
      | p1 f =>
        refine quiet fun _=>?_
        rw[he]at hy ⊢
        simp only[iy,Kk]at hy ⊢
        split at hy<;>first | (cases hy;done) | (rw[(B7 hy).1];rfl)
      | p2 f =>
        refine quiet fun _=>?_
        rw[he]at hy ⊢
        simp only[iy,Kk]at hy ⊢
        split at hy<;>first | (cases hy;done) | (rw[(B7 hy).1];rfl)
      | p f =>
        refine quiet fun _=>?_
        rw[he]at hy ⊢
        simp only[iy,Kk]at hy ⊢
        rw[(B7 hy).1];rfl
      | r1 f =>
        refine quiet fun _=>?_
        have:=Lh (J.rds p hlt hnd hw (by rw[he];rfl))
        rw[he]at this ⊢
        exact this
      | r f =>
        refine quiet fun _=>?_
        have:=Lh (J.rds p hlt hnd hw (by rw[he];rfl))
        rw[he]at this ⊢
        exact this
      | mk f =>
        obtain⟨ob,m,g1,g2,g3,g4,g5,g6⟩:=J.unb p hlt hnd hw f he
        let s':AD:={ next:=(D.st p).next,heap:=(D.st k).heap }
        have hinv:As P ρ s' w:=J.inv.same (fun _ _ _=>rfl) J.inv.glb
        have hsame:∀x,(newObj s' ob).heap.get x=(D.st k).heap.get x:=by
          intro x
          rw[Ai]
          by_cases e:x=s'.next
          · rw[if_pos e,e];exact g4.symm
          · rw[if_neg e]
        refine N0 hinv g3 hoi (sok (s1:=newObj s' ob) (fun _=>?_) (fun e=>by rw[hw]at e;cases e)) hne hv hnt' ?_
        · rw[he]
          simp only[iy,Kk,g1,S7,g2]
          rfl
        · intro v' w' ρ' h1 h2 h3
          have h2':As P ρ' (D.st k) w':=h2.same (fun x _ _=>(hsame x).symm) fun i o g hi hgo=>let ⟨r,hr⟩:=J.inv.glb i o g hi hgo;⟨r,h3.le _ _ hr⟩
          have hid:(D.st p).next+1≤(D.st k).next:=g6
          refine hK k ρ' _ w' (J.put ht hp hnt hi hnd hlt (tJ k) (fun q hq=>.inr hq) J.kle hanc h1 h3.le h2' ?_ ?_ ?_ ?_)
          · intro x hx
            have:=J.fresh x hx
            exact⟨h3.fresh x this.1 (.inr (show(D.st p).next+1≤x by omega)),this.2⟩
          · refine ⟨A5.le_trans  J.fr.le h3.le, ?_, J.fr.next, tN           J.fr.size h3.size, h3.os.trans J.fr.os, h3.tape.trans J.fr.tape, h3.output.trans J.fr.output, ?_, ?_, J.fr.unborn, fun x rb hx h0 => ?_, J.fr.dom⟩
            · intro x hx h'
              refine h3.fresh x (J.fr.fresh x hx h') ?_
              rcases h' with h' | h'
              · exact .inl (show x<(D.st p).next by omega)
              · exact .inr (show(D.st p).next+1≤x by omega)
            · intro bb hb ho
              have hb':bb<w.heap.size:=tO hb J.fr.size
              refine(h3.keep bb hb' ?_).trans (J.fr.keep bb hb ho)
              intro ho'
              have ho'':Ee ρ (D.st k) bb:=ho'
              exact(J.fr.own bb ho'').elim ho (fun hge=>by omega)
            · intro bb hb
              have hb':Ee ρ' (newObj s' ob) bb:=hb.same fun x _ _=>(hsame x).symm
              rcases h3.own bb hb' with h' | h'
              · exact J.fr.own bb h'
              · exact .inr (tN J.fr.size h')
            · cases h1 : ρ x with
              | some rb1 =>
                have:=h3.le _ _ h1
                rw[hx]at this
                injection this with this
                subst this
                exact J.fr.blk x _ h1 h0
              | none =>
                rcases h3.blk x rb hx h1 with h2 | ⟨j,o,rj,h2,h4,h5⟩
                · exact .inl (tN J.fr.size h2)
                · cases h6:ρ0 j with
                  | none=>rw[← h5];exact J.fr.blk j rj h4 h6
                  | some rj0 =>
                    have:=J.fr.le _ _ h6
                    rw[h4]at this
                    injection this with this
                    subst this
                    obtain⟨o',h7⟩:=J.fr.dom j o _ h2 h6
                    exact .inr ⟨j,o',_,h7,h6,h5⟩
          · intro q hq hqp hd hwq fq hfq
            obtain⟨_,_,_,_,u3,_,_,u6⟩:=J.unb q hq hd hwq fq hfq
            have hne':(D.st q).next≠(D.st p).next:=by
              rcases un q p with h' | h' | h'
              · exact J.dis q p h' hlt hd hnd hwq hw (by rw[hfq];rfl) (by rw[he];rfl)
              · exact absurd h' hqp
              · exact(J.dis p q h' hq hnd hd hw hwq (by rw[he];rfl) (by rw[hfq];rfl)).symm
            refine⟨h3.fresh _ u3 ?_,rfl,u6⟩
            rcases Nat.lt_or_gt_of_ne hne' with h' | h'
            · exact .inl h'
            · exact .inr h'
          · intro q hq _ hd hwq hr
            exact J.rds q hq hd hwq hr
      | e f=>rw[he]at hne;cases hne
      | call f=>rw[he]at hne;cases hne
      | callv=>rw[he]at hne;cases hne
  ·
    have hpk:p=k:=by omega
    subst hpk
    have hkn:p<π.length:=hpn
    have he:(D.sh p).isEff=true:=htop.resolve_left (by omega)
    refine YK hF J.inv J.fresh hoi (sok (s1:=D.st (p+1)) hs.yes (fun e=>(hs.no e).2)) hv hnt' ?_
    intro v' w' ρ' h1 h2 h3
    refine hK (p+1) ρ' _ w' (J.put ht hp hnt hi hnd (t6 p) (t7 p) (fun q hq=>by omega) hkn hanc h1 h3.le h2 (J.fresh.step h3) (J.fr.trans h3) ?_ ?_)
    · intro q hq _ hd hw f hf
      obtain⟨ob,m,g1,g2,g3,g4,g5,g6⟩:=J.unb q hq hd hw f hf
      exact⟨h3.fresh _ g3 (.inl g6),h3.unborn _ g3 (.inl g6),tO g6 h3.next⟩
    · intro q hq _ hd hw hr
      have hqn:q<π.length:=by omega
      cases hwp:D.want p with
      | false=>rw[(hs.no hwp).2];exact J.rds q hq hd hw hr
      | true =>
        refine ht.ag p q i _ hi (place q hqn) hq he hwp hr ?_ hw
        cases hb:((Region.before ops).getD i 0).testBit π[q]with
        | false=>rfl
        | true=>exact absurd ⟨π[q],place q hqn,hanc _ (hp.lt q _ (place q hqn)) hb⟩ hd
theorem DJ.any (hF : i6  P F) (ht : PT P F ops nt (Region.before ops) π D) (hpl : Ea     P ops (Region.before ops) [] π = true) (hr0 : E5   ρ0 (D.R 0) a0.tmps) (hnt : nt ≤ a0.tmps.size)
    (hq:∀a' w' ρ',As P ρ' (D.st π.length) w'→Ah ρ' (D.st π.length)→Fr ρ0 (D.st 0) w0 ρ' (D.st π.length) w'→E5 ρ' (D.R π.length) a'.tmps→a'.tmps.size=a0.tmps.size→a'.defers=a0.defers→Q .normal a' w'):
    ∀ (fuel:Nat) (listed:Array Bool) (k:Nat) (ρ:A5) (a:Act) (w:World),DJ P ops (Region.before ops) π D ρ0 w0 a0 listed k ρ a w→(∀l:List Nat,l.Nodup→(∀i∈l,listed[i]? = some false)→l.length≤fuel) →
      wpAnyIn (JY rnd) 0 P .any ops Q fuel listed a w:=by
  have hp:=Kf hpl
  have place:∀ (q:Nat) (h:q<π.length),π[q]? = some π[q]:=fun q hq=>tQ hq
  have bool:∀ {listed:Array Bool} {i:Nat},i<listed.size→listed[i]?≠some true→listed[i]? = some false:=by
    intro listed i hi h
    rw[Array.getElem?_eq_getElem hi]at h ⊢
    cases hb:listed[i]with
    | true=>rw[hb]at h;exact absurd rfl h
    | false=>rfl
  have all:∀ {listed:Array Bool} {k:Nat} {ρ:A5} {a:Act} {w:World},DJ P ops (Region.before ops) π D ρ0 w0 a0 listed k ρ a w→Region.ready .any ops listed=[]→∀p,p<π.length→Dn π listed p:=by
    intro listed k ρ a w J hr p
    induction p using Nat.strongRecOn with
    | ind p ih =>
      intro hpn
      refine Classical.byContradiction fun hnd=>?_
      have hi:=place p hpn
      have hlt:=hp.lt p _ hi
      have hoi:=ht.op p _ hi
      have hf:listed[π[p]]? = some false:=bool (by rw[J.lsz];exact hlt) fun h=>hnd ⟨_,hi,h⟩
      have hm:π[p]∈Region.ready .any ops listed:=by
        refine mem_ready.2 ⟨by simp[Array.getD_eq_getD_getElem?,hf],D.o p,hoi,?_⟩
        intro e he hb
        obtain⟨q,hqp,hq'⟩:=hp.edge p _ _ hi hoi e he hb
        obtain⟨j,hj,hl⟩:=ih q hqp (by omega)
        rw[hq']at hj
        injection hj with hj
        subst hj
        simp[Array.getD_eq_getD_getElem?,hl]
      rw[hr]at hm
      cases hm
  have done:∀ {listed:Array Bool} {k:Nat} {ρ:A5} {a:Act} {w:World},DJ P ops (Region.before ops) π D ρ0 w0 a0 listed k ρ a w→Region.ready .any ops listed=[]→Q .normal a w:=by
    intro listed k ρ a w J hr
    have hall:=all J hr
    have hk:k=π.length:=by
      rcases tL k π.length with h' | h'
      · have:=J.dlt k (hall k h');omega
      · have:=J.kle;omega
    subst hk
    refine hq a w ρ J.inv J.fresh J.fr ?_ J.sz J.dfr
    intro t x hx
    rcases ht.regs_at π.length (tJ _) t x hx with⟨q,hqn,hd,rfl⟩ | ⟨hno,h0⟩
    · exact⟨by rw[J.sz];exact tO ((ht.step q hqn).lt t hd) hnt,J.rw q (hall q hqn) t hd⟩
    · exact⟨by rw[J.sz];exact(hr0 t x h0).1,J.ri t (fun q dq=>hno q (J.dlt q dq)) x h0⟩
  intro fuel
  induction fuel with
  | zero =>
    intro listed k ρ a w J hfu
    have hr:Region.ready .any ops listed=[]:=by
      cases hr:Region.ready .any ops listed with
      | nil=>rfl
      | cons i l =>
        have hm:i∈Region.ready .any ops listed:=by rw[hr];exact tS
        obtain⟨h1,o,ho,_⟩:=mem_ready.1 hm
        have hlt:i<ops.size:=by
          rcases tL i ops.size with h' | h'
          · exact h'
          · rw[Array.getElem?_eq_none h']at ho;cases ho
        have:=hfu [i] (by simp) (fun j hj=>by
          have:j=i:=by simpa using hj
          subst this
          refine bool (by rw[J.lsz];exact hlt) fun h=>?_
          simp[Array.getD_eq_getD_getElem?,h]at h1)
        simp at this
    exact⟨hr,done J hr⟩
  | succ fuel ih =>
    intro listed k ρ a w J hfu
    obtain⟨k,J,htop⟩:=J.adv ht _ k rfl
    refine⟨done J,fun i hm=>?_⟩
    obtain⟨h1,o,ho,hr⟩:=mem_ready.1 hm
    have hlt:i<ops.size:=by
      rcases tL i ops.size with h' | h'
      · exact h'
      · rw[Array.getElem?_eq_none h']at ho;cases ho
    obtain⟨p,hi⟩:=hp.onto hlt
    have hf:listed[i]?≠some true:=fun h=>by simp[Array.getD_eq_getD_getElem?,h]at h1
    have hnd:¬ Dn π listed p:=fun⟨j,hj,hl⟩=>by
      rw[hi]at hj
      injection hj with hj
      subst hj
      exact hf hl
    refine J.run hF ht hpl hr0 hnt htop hi hnd (J.ahead hp hi ho hr) ?_
    intro k' ρ' a' w' J'
    refine ih _ k' ρ' a' w' J' ?_
    intro l hn hl
    have hil:i ∉ l:=fun h=>by
      have:=hl i h
      simp[J.lsz,hlt]at this
    have:=hfu (i::l) (uS.2 ⟨hil,hn⟩) (fun j hj=>by
      rcases uT.1 hj with rfl | hj
      · exact bool (by rw[J.lsz];exact hlt) hf
      · have:=hl j hj
        rw[Array.getElem?_setIfInBounds_ne (fun e=>hil (by rw[e];exact hj))]at this
        exact this)
    simpa using this
theorem fR(hF:i6 P F){R R2:Bw}{s s2:AD}(htr:Trace P F ops nt (Region.before ops) true π [] R s R2 s2)(hpl:Ea P ops (Region.before ops) [] π=true)
  (h:As P ρ s w) (hf:Ah ρ s) (hr:E5 ρ R a.tmps) (hnt:nt≤a.tmps.size)
  (hq:∀a' w' ρ',As P ρ' s2 w'→Ah ρ' s2→Fr ρ s w ρ' s2 w'→E5 ρ' R2 a'.tmps→a'.tmps.size=a.tmps.size→a'.defers=a.defers→Q .normal a' w'):
  wpAnyIn (JY rnd) 0 P .any ops Q ops.size (Array.replicate ops.size false) a w:=by
 obtain⟨D,ht,e1,e2,e3,e4,_⟩:=ia htr
 subst e1;subst e2;subst e3;subst e4
 have nodn:∀p,¬ Dn π (Array.replicate ops.size false) p:=by
  rintro p ⟨i,_,h⟩
  rw[Array.getElem?_replicate]at h
  split at h<;>cases h
 refine DJ.any hF ht hpl hr hnt hq ops.size _ 0 ρ a w ⟨by simp,tV _,fun p h=>(nodn p h).elim,fun p h=>by omega,fun p i _ h=>(nodn p h).elim,h,hf,Fr.refl _ _ _,fun p h=>by omega,fun p q _ h=>by omega,fun p h=>by omega,rfl,rfl,fun p h=>(nodn p h).elim,?_⟩ ?_
 ·intro t _ x hx
  exact(hr t x hx).2
 ·intro l hn hl
  refine TG ops.size l hn fun i hi=>?_
  have:=hl i hi
  rw[Array.getElem?_replicate]at this
  split at this
  ·assumption
  ·cases this
end
end
end Go.Proofs.YtoaaclpjkelofaaGreatDoor.Am
