/- The operations of the model, by their shapes; conditions: none. -/
import Derived.LaidEql
import Derived.Test.YtfgmceookgelcaaGreatDoorAmM02
import Derived.OrdersIn
import Derived.RangeFuncLeaves
set_option linter.unusedVariables false
set_option linter.unusedSimpArgs false
namespace Go.Proofs.YtfgmceookgelcaaGreatDoor.Am
open Go
noncomputable section
def IM(sh:Sh)(aS:List AV)(s:AE):Option (AV×AE):=
 match sh with
 | .p1 f=>(match aS with | a::_=>DC s (f a) | []=>none)
 | .p2 f=>(match aS with | a::b::_=>DC s (f a b) | _=>none)
 | .p f=>DC s (f aS)
 | .r1 f=>(match aS with | a::_=>DC s (f s a) | []=>none)
 | .r f=>DC s (f s aS)
 | .mk f=>N1 s (f aS)
 | .e f=>f s aS
 | .call _ | .callv=>none
section
variable{P:Program}{ρ ρ1 ρ2:A4}{s s1 s2:AE}{w w1 w2:World}
theorem Bw{x:Option AV}{v:AV}(h:DC s x=some (v,s1)):x=some v∧s1=s:=by
 cases x with
 | none=>cases h
 | some u=>injection h with h;injection h with h1 h2;exact⟨by rw[h1],h2.symm⟩
theorem P6{x:Option (AX×Made)}{v:AV}(h:N1 s x=some (v,s1)):∃o m,x=some (o,m)∧v=m.val s.next∧s1=newObj s o:=by
 cases x with
 | none=>cases h
 | some u=>injection h with h;injection h with h1 h2;exact⟨u.1,u.2,rfl,h1.symm,h2.symm⟩
theorem FU{x:Option AE}{v:AV}(h:Xz x=some (v,s1)):x=some s1∧v=BU:=by
 cases x with
 | none=>cases h
 | some u=>injection h with h;injection h with h1 h2;exact⟨by rw[h2],h1.symm⟩
theorem G1{f:AV→Option AV}{a v:AV}(h:IM (.p1 f) [a] s=some (v,s1)):f a=some v∧s1=s:=Bw h
theorem QQ{f:AV→AV→Option AV}{a b v:AV}(h:IM (.p2 f) [a,b] s=some (v,s1)):f a b=some v∧s1=s:=Bw h
theorem Kh{f:List AV→Option AV}{aS:List AV}{v:AV}(h:IM (.p f) aS s=some (v,s1)):f aS=some v∧s1=s:=Bw h
theorem QS{f:AE→AV→Option AV}{a v:AV}(h:IM (.r1 f) [a] s=some (v,s1)):f s a=some v∧s1=s:=Bw h
theorem Li{f:AE→List AV→Option AV}{aS:List AV}{v:AV}(h:IM (.r f) aS s=some (v,s1)):f s aS=some v∧s1=s:=Bw h
theorem IN{f:List AV→Option (AX×Made)}{aS:List AV}{v:AV}(h:IM (.mk f) aS s=some (v,s1)):∃o m,f aS=some (o,m)∧v=m.val s.next∧s1=newObj s o:=P6 h
theorem Yy{f:AE→List AV→Option (AV×AE)}{aS:List AV}{v:AV}(h:IM (.e f) aS s=some (v,s1)):f s aS=some (v,s1):=h
def Bx(P:Program)(ρ:A4)(s:AE)(w:World)(sem:Sem Next)(v:AV)(s':AE):Prop:=
 ∃v' w' ρ',(sem.run P w=.ok (.value v') w'∨(sem.run P w=.ok .skip w'∧v'=undef))∧AL ρ' v v'∧Av P ρ' s' w'∧Fr ρ s w ρ' s' w'
theorem Bx.pure(h:Av P ρ s w){sem:Sem Value}{v:AV}(hr:∃v',sem.run P w=.ok v' w∧AL ρ v v'):Bx P ρ s w (do Pure.pure (Next.value (← sem))) v s:=by
 obtain⟨v',h1,h2⟩:=hr
 exact⟨v',w,ρ,.inl (by simp[h1]),h2,h,Fr.refl _ _ _⟩
theorem Bx.eff{sem:Sem Value}{v:AV}(hr:Q4 P ρ s w sem v s1):Bx P ρ s w (do Pure.pure (Next.value (← sem))) v s1:=by
 obtain⟨v',w',ρ',h1,h2,h3,h4⟩:=hr
 exact⟨v',w',ρ',.inl (by simp[h1]),h2,h3,h4⟩
theorem Bx.new{sem:Sem Value}{o:AX}{m:Made}(hr:K7 P ρ s w sem o m):Bx P ρ s w (do Pure.pure (Next.value (← sem))) (m.val s.next) (newObj s o):=by
 obtain⟨v',w',ρ',h1,h2,h3,h4⟩:=hr
 exact⟨v',w',ρ',.inl (by simp[h1]),h2,h3,h4⟩
theorem Bx.unit{sem:Sem Unit}(hr:∃w',sem.run P w=.ok () w'∧Av P ρ s1 w'∧Fr ρ s w ρ s1 w'):Bx P ρ s w (do sem;Pure.pure Next.skip) BU s1:=by
 obtain⟨w',h1,h2,h3⟩:=hr
 exact⟨undef,w',ρ,.inr ⟨by simp[h1],rfl⟩,Cq ρ,h2,h3⟩
theorem AK.one{a:List AV}{x':Value}(h:AK ρ a [x']):∃x,a=[x]∧AL ρ x x':=by
 cases h with
 | cons h hs=>cases hs;exact⟨_,rfl,h⟩
theorem AK.two{a:List AV}{x' y':Value}(h:AK ρ a [x',y']):∃x y,a=[x,y]∧AL ρ x x'∧AL ρ y y':=by
 cases h with
 | cons h hs=>obtain⟨y,rfl,hy⟩:=hs.one;exact⟨_,y,rfl,h,hy⟩
theorem AK.three{a:List AV}{x' y' z':Value}(h:AK ρ a [x',y',z']):∃x y z,a=[x,y,z]∧AL ρ x x'∧AL ρ y y'∧AL ρ z z':=by
 cases h with
 | cons h hs=>obtain⟨y,z,rfl,hy,hz⟩:=hs.two;exact⟨_,y,z,rfl,h,hy,hz⟩
theorem Lt{ps:Array (Nat×Operand)}{ev:Operand→Value}{aS:List AV}(h:AK ρ aS ((ps.toList.map (·.2)).map ev)):
    (zipIdx (ps.toList.map (·.1)) aS).map (·.1)=(ps.map fun(p:Nat×Operand)=>(p.1,ev p.2)).toList.map (·.1) ∧
      AK ρ ((zipIdx (ps.toList.map (·.1)) aS).map (·.2)) ((ps.map fun(p:Nat×Operand)=>(p.1,ev p.2)).toList.map (·.2)):=by
  have hlen:=h.length
  simp only[List.length_map]at hlen
  unfold zipIdx
  constructor
  · rw [List.map_fst_zip]
    · simp[Function.comp_def]
    · simp[hlen]
  · rw [List.map_snd_zip]
    · simpa[Function.comp_def]using h
    · simp[hlen]
theorem K1            (hI : Av  P ρ s w) {t : TypeId} {x : Operand} {lo hi mx : Option Operand} {ev : Operand → Value} {aS : List AV} {v : AV}
    (h:AK ρ aS (([x]++lo.toList++hi.toList++mx.toList).map ev)) (hs:Bg P t lo.isSome hi.isSome mx.isSome s aS=some v):
    ∃v',(Instr.sliceAt t (ev x) (lo.map ev) (hi.map ev) (mx.map ev)).run P w=.ok v' w∧AL ρ v v':=by
  cases lo with
  | none =>
    cases hi with
    | none =>
      cases mx with
      | none=>obtain⟨x,rfl,hx⟩:=AK.one h;exact D4 hI (show Bf P s t _ none none none=some v from hs) hx .none .none .none
      | some m=>obtain⟨x,y,rfl,hx,hy⟩:=AK.two h;simp[Bg]at hs
    | some hh =>
      cases mx with
      | none=>obtain⟨x,y,rfl,hx,hy⟩:=AK.two h;exact D4 hI (show Bf P s t _ none (some y) none=some v from hs) hx .none (.some hy) .none
      | some m=>obtain⟨x,y,z,rfl,hx,hy,hz⟩:=AK.three h;exact D4 hI (show Bf P s t _ none (some y) (some z)=some v from hs) hx .none (.some hy) (.some hz)
  | some l =>
    cases hi with
    | none =>
      cases mx with
      | none=>obtain⟨x,y,rfl,hx,hy⟩:=AK.two h;exact D4 hI (show Bf P s t _ (some y) none none=some v from hs) hx (.some hy) .none .none
      | some m=>obtain⟨x,y,z,rfl,hx,hy,hz⟩:=AK.three h;simp[Bg]at hs
    | some hh =>
      cases mx with
      | none=>obtain⟨x,y,z,rfl,hx,hy,hz⟩:=AK.three h;exact D4 hI (show Bf P s t _ (some y) (some z) none=some v from hs) hx (.some hy) (.some hz) .none
      | some m =>
        cases h with
        | cons hx h =>
          obtain⟨y,z,u,rfl,hy,hz,hu⟩:=AK.three h
          exact D4 hI (show Bf P s t _ (some y) (some z) (some u)=some v from hs) hx (.some hy) (.some hz) (.some hu)
theorem Yf{op:BinOp}{t:TypeId}{x y:Operand}{neg:Bool}(h:YZ P op t x y=some neg):op=bif neg then .neq else .eql:=by
 unfold YZ at h
 split at h
 ·cases hb:(Fn x && Fn y && Fm P t)with
  | true=>rw[hb]at h;injection h with h;subst h;rfl
  | false=>rw[hb]at h;cases h
 ·cases hb:(Fn x && Fn y && Fm P t)with
  | true=>rw[hb]at h;injection h with h;subst h;rfl
  | false=>rw[hb]at h;cases h
 ·cases h
theorem KN{i:Nat}(h:Gw s i=true):∃r,s.heap.get i=some (.row r)∧r.mode=.own∧r.par=none:=by
  unfold Gw at h
  split at h
  · rename_i r hr
    rw[Bool.and_eq_true]at h
    refine⟨r,As hr,?_,?_⟩
    · cases hm:r.mode with
      | own=>rfl
      | _=>rw[hm]at h;cases h.1
    · cases hp:r.par with
      | none=>rfl
      | some _=>rw[hp]at h;cases h.2
  · cases h
theorem TW        (h : Av  P ρ s w) {neg : Bool} {t : TypeId} {x y v : AV} {x' y' : Value} (hv : IH     P s neg t x y = some v) (hx : AL   ρ x x') (hy : AL   ρ y y') (ox oy : Operand) :
    ∃v',(do eqGuard (bif neg then .neq else .eql) t ox oy x' y';Go.binOp (bif neg then .neq else .eql) t x' y').run P w=.ok v' w∧AL ρ v v':=by
  unfold IH at hv
  split at hv
  · rename_i i o j q
    obtain⟨hg,hv⟩:=AA hv
    rw[Bool.and_eq_true,Bool.and_eq_true]at hg
    obtain⟨⟨h1,h2⟩,h3⟩:=hg
    injection hv with hv
    subst hv
    obtain⟨ri,i1,i2,i3⟩:=KN h2
    obtain⟨rj,j1,j2,j3⟩:=KN h3
    unfold X2 at h1
    split at h1<;>first | (cases h1;done) | skip
    rename_i te ht
    split at h1<;>first | (cases h1;done) | skip
    rename_i ji hji
    have hsz:ji.size≠0:=fun e=>by rw[e]at h1;cases h1
    cases hx with
    | @ptr _ _ rbi hi =>
    cases hy with
    | @ptr _ _ rbj hj =>
    have oi:Cx P ρ w (.row ri) rbi:=h.obj i _ rbi i1 hi
    have oj:Cx P ρ w (.row rj) rbj:=h.obj j _ rbj j1 hj
    have oi:BF ρ w ri rbi:=oi
    have oj:BF ρ w rj rbj:=oj
    obtain⟨ci,hi1,_⟩:=oi.own (by rw[i2];intro e;cases e)
    obtain⟨cj,hj1,_⟩:=oj.own (by rw[j2];intro e;cases e)
    have core:∃b:Bool,b=(Nat.beq i j && Nat.beq o q)∧(Op.equal t (.pointer (some ⟨rbi.b,rbi.off+o,none⟩)) (.pointer (some ⟨rbj.b,rbj.off+q,none⟩))).run P w=.ok b w:=by
      by_cases e:i=j∧o=q
      · obtain⟨e1,e2⟩:=e
        subst e1 e2
        rw[hi]at hj
        injection hj with hj
        subst hj
        refine⟨true,by simp,?_⟩
        have hd:∀d:Nat,(Op.equalIn (d+1) t (.pointer (some ⟨rbi.b,rbi.off+o,none⟩)) (.pointer (some ⟨rbi.b,rbi.off+o,none⟩))).run P w=.ok true w:=fun d=>by
          simp[Op.equalIn,AG ht,sizeOf,typeInfo,hji,run_sameAddr_same]
        exact hd 9999
      · have hb:(Nat.beq i j && Nat.beq o q)=false:=by
          cases hb:(Nat.beq i j && Nat.beq o q)with
          | false=>rfl
          | true =>
            rw[Bool.and_eq_true]at hb
            exact absurd ⟨fz hb.1,fz hb.2⟩ e
        have hne:(⟨rbi.b,rbi.off+o,none⟩:Addr)≠⟨rbj.b,rbj.off+q,none⟩:=fun ea=>by
          injection ea with e1 e2
          by_cases eij:i=j
          · subst eij
            rw[hi]at hj
            injection hj with hj
            subst hj
            exact e ⟨rfl,by omega⟩
          · have := (h.sep i j _ _ rbi rbj eij i1 j1 hi hj e1 (by show CS    rj.mode = true; rw [j2]; rfl)).1
            have this:rj.par=some i:=this
            rw[j3]at this
            cases this
        refine⟨false,hb.symm,?_⟩
        have hd:∀d:Nat,(Op.equalIn (d+1) t (.pointer (some ⟨rbi.b,rbi.off+o,none⟩)) (.pointer (some ⟨rbj.b,rbj.off+q,none⟩))).run P w=.ok false w:=fun d=>by
          simp[Op.equalIn,AG ht,sizeOf,typeInfo,hji,hsz,run_sameAddr_other w hne hi1 hj1]
        exact hd 9999
    obtain⟨b,hb,hrun⟩:=core
    rw[← hb]
    refine⟨.bool (b != neg),?_,.bool _⟩
    rw[Sem.run_bind,EA (by rfl)]
    simp only[Result.andThen_ok]
    cases neg with
    | false =>
      have:Go.binOp .eql t (.pointer (some ⟨rbi.b,rbi.off+o,none⟩)) (.pointer (some ⟨rbj.b,rbj.off+q,none⟩))=(do pure (.bool (← Op.equal t _ _)):Sem Value):=rfl
      rw[show(bif false then BinOp.neq else BinOp.eql)=.eql from rfl,this,Sem.run_bind,hrun]
      cases b<;>rfl
    | true =>
      have:Go.binOp .neq t (.pointer (some ⟨rbi.b,rbi.off+o,none⟩)) (.pointer (some ⟨rbj.b,rbj.off+q,none⟩))=(do pure (.bool (!(← Op.equal t _ _))):Sem Value):=rfl
      rw[show(bif true then BinOp.neq else BinOp.eql)=.neq from rfl,this,Sem.run_bind,hrun]
      cases b<;>rfl
  · exact Q9 hv hx hy ox oy
theorem cJ    (h : Av  P ρ s w) (hf : ρ s.next = none) {o : Oper} {sh : Sh} {xs : List Operand} {ev : Operand → Value} (hev : ∀ f, ev (.func f) = .func (.func f) #[] #[]) {aS : List AV} {v : AV} (hsh : At      P o.op = some (sh, xs)) (has : AK    ρ aS (xs.map ev))
    (hr:IM sh aS s=some (v,s1)):Bx P ρ s w (execOp ev o) v s1:=by
  cases ho:o.op<;>rw[ho]at hsh<;>first | (simp[At]at hsh;done) | skip
  case move x =>
    injection hsh with hsh;injection hsh with h1 h2;subst h1;subst h2
    obtain⟨a,rfl,ha⟩:=AK.one has
    obtain⟨hv,rfl⟩:=G1 hr
    injection hv with hv;subst hv
    exact⟨_,w,ρ,.inl (by simp[execOp,ho]),ha,h,Fr.refl _ _ _⟩
  case assign x =>
    injection hsh with hsh;injection hsh with h1 h2;subst h1;subst h2
    obtain⟨a,rfl,ha⟩:=AK.one has
    obtain⟨hv,rfl⟩:=G1 hr
    injection hv with hv;subst hv
    exact⟨_,w,ρ,.inl (by simp[execOp,ho]),ha,h,Fr.refl _ _ _⟩
  case pick c a b =>
    injection hsh with hsh;injection hsh with h1 h2;subst h1;subst h2
    obtain⟨x,y,z,rfl,hx,hy,hz⟩:=AK.three has
    obtain⟨hv,rfl⟩:=Kh hr
    simp only[Rt,Ru]at hv
    split at hv<;>first | (cases hv;done) | skip
    · injection hv with hv;subst hv
      generalize hc:ev c=c' at hx
      cases hx
      exact⟨_,w,ρ,.inl (by simp[execOp,ho,hc,asBool]),hy,h,Fr.refl _ _ _⟩
    · injection hv with hv;subst hv
      generalize hc:ev c=c' at hx
      cases hx
      exact⟨_,w,ρ,.inl (by simp[execOp,ho,hc,asBool]),hz,h,Fr.refl _ _ _⟩
  case build t ps =>
    injection hsh with hsh;injection hsh with h1 h2;subst h1;subst h2
    obtain⟨hv,rfl⟩:=Kh hr
    obtain⟨z1,z2⟩:=Lt has
    simp only[execOp,ho]
    exact Bx.pure h (S5 hv z1 z2 w)
  case nilCheck x =>
    injection hsh with hsh;injection hsh with h1 h2;subst h1;subst h2
    obtain⟨a,rfl,ha⟩:=AK.one has
    obtain⟨hv,rfl⟩:=G1 hr
    obtain⟨v',e1,e2⟩:=Ms (P:=P) (w:=w) hv ha ev o x ho rfl
    exact⟨v',w,ρ,.inl e1,e2,h,Fr.refl _ _ _⟩
  case binOp op t x y f =>
    simp only[At]at hsh
    split at hsh
    · rename_i neg hp
      injection hsh with hsh;injection hsh with h1 h2;subst h1;subst h2
      obtain⟨a,b,rfl,ha,hb⟩:=AK.two has
      obtain⟨hv,rfl⟩:=Li hr
      simp only[execOp,ho]
      have hop:op=bif neg then .neq else .eql:=Yf hp
      subst hop
      exact Bx.pure h (TW h hv ha hb _ _)
    · injection hsh with hsh;injection hsh with h1 h2;subst h1;subst h2
      obtain⟨a,b,rfl,ha,hb⟩:=AK.two has
      obtain⟨hv,rfl⟩:=QQ hr
      simp only[execOp,ho]
      exact Bx.pure h (Q9 hv ha hb _ _)
  case unOp op t x =>
    injection hsh with hsh;injection hsh with h1 h2;subst h1;subst h2
    obtain⟨a,rfl,ha⟩:=AK.one has
    obtain⟨hv,rfl⟩:=G1 hr
    simp only[execOp,ho]
    exact Bx.pure h (df hv ha)
  case makeFunc fn first captured =>
    simp only[At]at hsh
    split at hsh<;>first | (cases hsh;done) | skip
    rename_i f
    injection hsh with hsh;injection hsh with h1 h2;subst h1;subst h2
    obtain⟨hv,rfl⟩:=Kh hr
    injection hv with hv;subst hv
    rw[List.map_append]at has
    refine⟨.func (.func f) (first.map ev) (captured.map ev),w,ρ,.inl (by simp[execOp,ho,Instr.makeFunc]),.func ?_ ?_,h,Fr.refl _ _ _⟩
    · have:=has.take first.size
      simpa[List.take_left']using this
    · have:=has.drop first.size
      simpa[List.drop_left']using this
  case fieldAddr t x f =>
    injection hsh with hsh;injection hsh with h1 h2;subst h1;subst h2
    obtain⟨a,rfl,ha⟩:=AK.one has
    obtain⟨hv,rfl⟩:=G1 hr
    simp only[execOp,ho]
    exact Bx.pure h (Kt hv ha)
  case field t x f =>
    injection hsh with hsh;injection hsh with h1 h2;subst h1;subst h2
    obtain⟨a,rfl,ha⟩:=AK.one has
    obtain⟨hv,rfl⟩:=G1 hr
    simp only[execOp,ho]
    exact Bx.pure h (TC hv ha)
  case indexAddr t x i =>
    injection hsh with hsh;injection hsh with h1 h2;subst h1;subst h2
    obtain⟨a,b,rfl,ha,hb⟩:=AK.two has
    obtain⟨hv,rfl⟩:=QQ hr
    simp only[execOp,ho]
    exact Bx.pure h (Kv hv ha hb)
  case index t x i =>
    injection hsh with hsh;injection hsh with h1 h2;subst h1;subst h2
    obtain⟨a,b,rfl,ha,hb⟩:=AK.two has
    obtain⟨hv,rfl⟩:=QQ hr
    simp only[execOp,ho]
    exact Bx.pure h (TH hv ha hb)
  case extract t i =>
    injection hsh with hsh;injection hsh with h1 h2;subst h1;subst h2
    obtain⟨a,rfl,ha⟩:=AK.one has
    obtain⟨hv,rfl⟩:=G1 hr
    simp only[execOp,ho]
    exact Bx.pure h (Nn hv ha)
  case load t a =>
    injection hsh with hsh;injection hsh with h1 h2;subst h1;subst h2
    obtain⟨a,rfl,ha⟩:=AK.one has
    obtain⟨hv,rfl⟩:=QS hr
    simp only[execOp,ho]
    obtain⟨v',e1,e2,_⟩:=J7 h hv ha
    exact Bx.pure h ⟨v',e1,e2⟩
  case lookup t m k ok =>
    obtain⟨hmo,hsh⟩:=AA hsh
    injection hsh with hsh;injection hsh with h1 h2;subst h1;subst h2
    obtain⟨a,b,rfl,ha,hb⟩:=AK.two has
    obtain⟨hv,rfl⟩:=Li hr
    simp only[execOp,ho]
    exact Bx.pure h (P5 h hmo hv ha hb)
  case convert src dst x =>
    injection hsh with hsh;injection hsh with h1 h2;subst h1;subst h2
    obtain⟨a,rfl,ha⟩:=AK.one has
    obtain⟨hv,rfl⟩:=QS hr
    simp only[execOp,ho]
    exact Bx.pure h (XN h hv ha)
  case slice t x lo hi mx =>
    injection hsh with hsh;injection hsh with h1 h2;subst h1;subst h2
    obtain⟨hv,rfl⟩:=Li hr
    simp only[execOp,ho]
    exact Bx.pure h (K1 h has hv)
  case alloc e =>
    injection hsh with hsh;injection hsh with h1 h2;subst h1;subst h2
    cases has
    obtain⟨ob,m,hm,rfl,rfl⟩:=IN hr
    simp only[execOp,ho]
    exact Bx.new (Sx h hf hm)
  case box e x =>
    injection hsh with hsh;injection hsh with h1 h2;subst h1;subst h2
    obtain⟨a,rfl,ha⟩:=AK.one has
    obtain⟨ob,m,hm,rfl,rfl⟩:=IN hr
    simp only[execOp,ho]
    exact Bx.new (Zc h hf hm ha)
  case buildSlice t len ps =>
    injection hsh with hsh;injection hsh with h1 h2;subst h1;subst h2
    obtain⟨ob,m,hm,rfl,rfl⟩:=IN hr
    simp only[ft]at hm
    obtain⟨r,hr1,hm⟩:=hm
    injection hm with hm;injection hm with h1 h2;subst h1;subst h2
    obtain⟨z1,z2⟩:=Lt has
    simp only[execOp,ho]
    exact Bx.new (M9 h hf hr1 z1 z2)
  case makeMap t r =>
    cases r with
    | some _=>simp[At]at hsh
    | none =>
      obtain⟨hmo,hsh⟩:=AA hsh
      injection hsh with hsh;injection hsh with h1 h2;subst h1;subst h2
      cases has
      obtain⟨ob,m,hm,rfl,rfl⟩:=IN hr
      simp only[ft]at hm
      obtain⟨kt,hkt,hm⟩:=hm
      injection hm with hm;injection hm with h1 h2;subst h1;subst h2
      simp only[execOp,ho]
      exact Bx.new (P7 h hf t kt)
  case makeSlice t l c =>
    injection hsh with hsh;injection hsh with h1 h2;subst h1;subst h2
    obtain⟨a,b,rfl,ha,hb⟩:=AK.two has
    obtain⟨ob,m,hm,rfl,rfl⟩:=IN hr
    simp only[execOp,ho]
    exact Bx.new (Kx h hf hm ha hb)
  case store t a x =>
    injection hsh with hsh;injection hsh with h1 h2;subst h1;subst h2
    obtain⟨a,b,rfl,ha,hb⟩:=AK.two has
    obtain⟨hv,rfl⟩:=FU (Yy hr)
    simp only[execOp,ho]
    exact Bx.unit (Ti h hv ha hb)
  case mapUpdate t m k x =>
    obtain⟨hmo,hsh⟩:=AA hsh
    injection hsh with hsh;injection hsh with h1 h2;subst h1;subst h2
    obtain⟨a,b,c,rfl,ha,hb,hc⟩:=AK.three has
    obtain⟨hv,rfl⟩:=FU (Yy hr)
    simp only[execOp,ho]
    exact Bx.unit (Kp h hmo hv ha hb hc)
  case insert t m k x =>
    obtain⟨hmo,hsh⟩:=AA hsh
    injection hsh with hsh;injection hsh with h1 h2;subst h1;subst h2
    obtain⟨a,b,c,rfl,ha,hb,hc⟩:=AK.three has
    obtain⟨hv,rfl⟩:=FU (Yy hr)
    simp only[execOp,ho]
    exact Bx.unit (Kp h hmo hv ha hb hc)
  case call c =>
    obtain⟨callee,args,argTypes⟩:=c
    have hx:∀b,callee=.builtin b→execOp ev o=builtin b argTypes o.type (args.map fun | .const _=>true | _=>false) (args.map ev):=by
      intro b hb
      subst hb
      simp only[execOp,ho,resolve]
      rfl
    simp only[At]at hsh
    split at hsh
    · rename_i f
      split at hsh
      · rename_i e he
        injection hsh with hsh;injection hsh with h1 h2;subst h1;subst h2
        have hr:e s aS=some (v,s1):=hr
        have hx2:execOp ev o=(do let d ← Deferred.ofValue (ev (.func f)) (args.map ev);invoke d.target d.args):=by
          simp only[execOp,ho,resolve]
        obtain⟨v',w1,ρ1,g1,g2,g3,g4⟩:=Xj h hf he hr has
        refine⟨v',w1,ρ1,.inl ?_,g2,g3,g4⟩
        have hl:(args.toList.map ev).toArray=args.map ev:=by rw[← Array.toList_map]
        rw[hl]at g1
        rw[hx2,hev,← g1]
        simp[Deferred.ofValue,invoke]
      · injection hsh with hsh;injection hsh with h1 h2;subst h1;subst h2;cases hr
    · injection hsh with hsh;injection hsh with h1 h2;subst h1;subst h2;cases hr
    · cases hsh
    · rename_i b
      rw[hx b rfl]
      have hargs:∀l:List Value,args.toList.map ev=l→args.map ev=l.toArray:=by
        intro l hl
        rw[← hl,← Array.toList_map]
      split at hsh<;>first | (cases hsh;done) | skip
      · split at hsh<;>first | (cases hsh;done) | skip
        rename_i t ht
        injection hsh with hsh;injection hsh with h1 h2;subst h1;subst h2
        obtain⟨hv,rfl⟩:=Li hr
        split at hv<;>first | (cases hv;done) | skip
        generalize hl:args.toList.map ev=l at has
        cases has with
        | cons hx1 hn =>
          cases hn
          rw[hargs _ hl]
          exact Bx.pure h (ai h ht hv hx1)
      · split at hsh<;>first | (cases hsh;done) | skip
        rename_i t ht
        injection hsh with hsh;injection hsh with h1 h2;subst h1;subst h2
        obtain⟨hv,rfl⟩:=Li hr
        split at hv<;>first | (cases hv;done) | skip
        generalize hl:args.toList.map ev=l at has
        cases has with
        | cons hx1 hn =>
          cases hn
          rw[hargs _ hl]
          exact Bx.pure h (Zh h ht hv hx1)
      · injection hsh with hsh;injection hsh with h1 h2;subst h1;subst h2
        obtain⟨hv,rfl⟩:=Kh hr
        split at hv<;>first | (cases hv;done) | skip
        generalize hl:args.toList.map ev=l at has
        cases has with
        | cons hx1 hn =>
          rw[hargs _ hl]
          refine Bx.pure h ?_
          obtain⟨r',e1,e2⟩:=GG (P:=P) (w:=w) hv hx1 hn
          exact⟨r',by simpa[Builtin.min_]using e1,e2⟩
      · injection hsh with hsh;injection hsh with h1 h2;subst h1;subst h2
        obtain⟨hv,rfl⟩:=Kh hr
        split at hv<;>first | (cases hv;done) | skip
        generalize hl:args.toList.map ev=l at has
        cases has with
        | cons hx1 hn =>
          rw[hargs _ hl]
          refine Bx.pure h ?_
          obtain⟨r',e1,e2⟩:=GG (P:=P) (w:=w) hv hx1 hn
          exact⟨r',by simpa[Builtin.max_]using e1,e2⟩
      · injection hsh with hsh;injection hsh with h1 h2;subst h1;subst h2
        have hr:A7 P s argTypes.toList aS=some (v,s1):=hr
        have hr0:=hr
        unfold A7 at hr0
        split at hr0<;>first | (cases hr0;done) | skip
        rename_i st xt a len cap x hty _
        clear hr0
        generalize hl:args.toList.map ev=l at has
        obtain⟨a',x',rfl,hx1,hx2⟩:∃a' x',l=[a',x']∧AL ρ _ a'∧AL ρ _ x':=by
          cases has with
          | cons h1 h2=>cases h2 with | cons h2 h3=>cases h3;exact⟨_,_,rfl,h1,h2⟩
        rw[hargs _ hl,show argTypes=#[st,xt]from Array.ext' hty]
        rw[hty]at hr
        exact Bx.eff (Oy h hf hr hx1 hx2)
      · injection hsh with hsh;injection hsh with h1 h2;subst h1;subst h2
        rw[hargs _ rfl]
        exact Bx.eff (XQ h hr (by simpa using has))
      · injection hsh with hsh;injection hsh with h1 h2;subst h1;subst h2
        obtain⟨hv,rfl⟩:=Kh hr
        split at hv<;>first | (cases hv;done) | skip
        generalize hl:args.toList.map ev=l at has
        cases has with
        | cons hx1 hn =>
          cases hn
          rw[hargs _ hl]
          exact Bx.pure h (XU hv hx1)
      · injection hsh with hsh;injection hsh with h1 h2;subst h1;subst h2
        rw[hargs _ rfl]
        exact Bx.eff (ZH h hr (by simpa using has))
      · injection hsh with hsh;injection hsh with h1 h2;subst h1;subst h2
        rw[hargs _ rfl]
        exact Bx.eff (S8 h hr (by simpa using has))
      · split at hsh<;>first | (cases hsh;done) | skip
        rename_i t ht
        obtain⟨hmo,hsh⟩:=AA hsh
        injection hsh with hsh;injection hsh with h1 h2;subst h1;subst h2
        have hr:Xx (fun m k=>Xz (I9 P s t m k)) aS=some (v,s1):=hr
        unfold Xx at hr
        split at hr<;>first | (cases hr;done) | skip
        obtain⟨hv,rfl⟩:=FU hr
        generalize hl:args.toList.map ev=l at has
        obtain⟨a',x',rfl,hx1,hx2⟩:∃a' x',l=[a',x']∧AL ρ _ a'∧AL ρ _ x':=by
          cases has with
          | cons h1 h2=>cases h2 with | cons h2 h3=>cases h3;exact⟨_,_,rfl,h1,h2⟩
        rw[hargs _ hl]
        obtain⟨w1,e1,e2,e3⟩:=Pn (ty:=o.type) h hmo ht hv hx1 hx2
        exact Bx.eff ⟨undef,w1,ρ,e1,Cq ρ,e2,e3⟩
end
def AE.sub(s s':AE):Prop:=∀i o,s.heap.get i=some o→s'.heap.get i=some o
section
variable{P:Program}{ρ ρ1 ρ2:A4}{s s1 s2:AE}{w w1 w2:World}
theorem AE.sub_new(h:s.heap.get s.next=none)(o:AX):s.sub (newObj s o):=fun i ob e=>by
 rw[Ah,if_neg]
 ·exact e
 ·intro q;subst q;rw[h]at e;cases e
theorem Ck(h:s.sub s2){i:Nat}{r:B6}(hr:rowAt s i=some r):rowAt s2 i=some r:=by
 have:=h i _ (As hr)
 simp[rowAt,this]
theorem Gr(h:s.sub s2){i o n:Nat}{l:List AV}(hr:Be s i o n=some l):Be s2 i o n=some l:=by
 unfold Be at hr ⊢
 simp only[ft]at hr
 obtain⟨r,h1,h2⟩:=hr
 rw[Ck h h1]
 exact h2
theorem J4(h:s.sub s2){i o:Nat}{l:AV}(hr:Cc s i o=some l):Cc s2 i o=some l:=by
 unfold Cc at hr ⊢
 simp only[ft]at hr
 obtain⟨r,h1,h2⟩:=hr
 rw[Ck h h1]
 exact h2
theorem P4         (h : s.sub s2) {t : TypeId} {a v : AV} (hr : AF    P s t a = some v) : AF    P s2 t a = some v := by
  unfold AF at hr ⊢
  split at hr<;>first | (cases hr;done) | skip
  · simp only[ft]at hr ⊢
    obtain⟨r,h0,g,h1,h2⟩:=hr
    refine⟨r,?_,g,h1,?_⟩
    · unfold Me at h0 ⊢
      simp only[ft]at h0 ⊢
      obtain⟨r',k1,k2⟩:=h0
      exact⟨r',Ck h k1,k2⟩
    · cases g with
      | true =>
        simp only[ft]at h2 ⊢
        obtain⟨n,h3,l,h4,h5⟩:=h2
        exact⟨n,h3,l,Gr h h4,h5⟩
      | false=>exact J4 h h2
  simp only[ft]at hr ⊢
  obtain⟨g,h1,h2⟩:=hr
  refine⟨g,h1,?_⟩
  cases g with
  | true =>
    simp only[ft]at h2 ⊢
    obtain⟨n,h3,l,h4,h5⟩:=h2
    exact⟨n,h3,l,Gr h h4,h5⟩
  | false=>exact J4 h h2
theorem Mn           (h : s.sub s2) {t : TypeId} {m k v : AV} {ok : Bool} (hr : GD      P s t m k ok = some v) : GD      P s2 t m k ok = some v := by
  unfold GD at hr ⊢
  split at hr<;>first | (cases hr;done) | skip
  obtain⟨hk,hg⟩:=AA hr
  clear hr
  rw[hk]
  simp only[AH,cond_true]
  simp only[ft]at hg ⊢
  obtain⟨es,h1,rest⟩:=hg
  refine⟨es,?_,rest⟩
  cases m with
  | map r =>
    cases r with
    | none=>exact h1
    | some i =>
      simp only at h1 ⊢
      unfold SZ at h1 ⊢
      split at h1<;>first | (cases h1;done) | skip
      all_goals
        rename_i hget
        rw[h i _ hget]
        exact h1
  | _=>cases h1
theorem Pl(h:s.sub s2){src dst:TypeId}{x v:AV}(hr:Af P s src dst x=some v):Af P s2 src dst x=some v:=by
  unfold Af at hr ⊢
  split at hr<;>first | (cases hr;done) | skip
  · exact hr
  · exact hr
  · split at hr <;> first | (cases hr; done) | skip
    split at hr
    · exact hr
    · simp only[ft]at hr ⊢
      obtain⟨l,h1,rest⟩:=hr
      exact⟨l,Gr h h1,rest⟩
  all_goals
    unfold Af.seenPtr at hr ⊢
    split at hr<;>first | (cases hr;done) | skip
    · exact hr
    · simp only[ft]at hr ⊢
      obtain⟨r,h1,rest⟩:=hr
      exact⟨r,Ck h h1,rest⟩
theorem Oc          (h : s.sub s2) {t : TypeId} {x v : AV} {lo hi mx : Option AV} (hr : Bf     P s t x lo hi mx = some v) : Bf     P s2 t x lo hi mx = some v := by
  unfold Bf at hr ⊢
  split at hr<;>first | (cases hr;done) | skip
  · exact hr
  · rename_i a len cap
    split at hr<;>first | (cases hr;done) | skip
    simp only[ft]at hr ⊢
    obtain⟨n,h1,far,h2,rest⟩:=hr
    refine⟨n,h1,far,?_,rest⟩
    cases cap with
    | some c=>exact h2
    | none =>
      cases a with
      | none=>exact h2
      | some io =>
        obtain⟨i,o⟩:=io
        simp only[ft]at h2 ⊢
        obtain⟨r,h3,h4⟩:=h2
        exact⟨r,Ck h h3,h4⟩
  · exact hr
theorem I0(h:s.sub s2){t:TypeId}{lo hi mx:Bool}{aS:List AV}{v:AV}(hr:Bg P t lo hi mx s aS=some v):Bg P t lo hi mx s2 aS=some v:=by
 unfold Bg at hr ⊢
 split at hr<;>first | (cases hr;done) | skip
 all_goals
  split at hr<;>first | (cases hr;done) | exact Oc h hr
theorem TL(h:s.sub s2){t:TypeId}{x v:AV}(hr:Bk P s t x=some v):Bk P s2 t x=some v:=by
  unfold Bk at hr ⊢
  split at hr<;>first | (cases hr;done) | skip
  · exact hr
  · exact hr
  · exact hr
  · split at hr <;> first | (cases hr; done) | skip
    split at hr<;>first | (cases hr;done) | skip
    all_goals
      rename_i hget
      rw[h _ _ hget]
      exact hr
theorem S7(h:s.sub s2){t:TypeId}{x v:AV}(hr:S6 P s t x=some v):S6 P s2 t x=some v:=by
  unfold S6 at hr ⊢
  split at hr<;>first | (cases hr;done) | skip
  split at hr<;>first | (cases hr;done) | skip
  split at hr
  · exact hr
  · split at hr <;> first | (cases hr; done) | skip
    simp only[ft]at hr ⊢
    obtain⟨n,h1,r,h2,h3⟩:=hr
    exact⟨n,h1,r,Ck h h2,h3⟩
theorem Ii(h:s.sub s2){i:Nat}(hr:Gw s i=true):Gw s2 i=true:=by
  unfold Gw at hr ⊢
  split at hr
  · rename_i r hrow
    rw[Ck h hrow]
    exact hr
  · cases hr
theorem OJ(h:s.sub s2){neg:Bool}{t:TypeId}{x y v:AV}(hr:IH P s neg t x y=some v):IH P s2 neg t x y=some v:=by
 unfold IH at hr ⊢
 split at hr
 ·obtain⟨hg,hv⟩:=AA hr
  rw[Bool.and_eq_true,Bool.and_eq_true]at hg
  obtain⟨⟨h1,h2⟩,h3⟩:=hg
  rw[h1,Ii h h2,Ii h h3]
  exact hv
 ·exact hr
theorem OE{α:Type}{f g:AV→Option α}(hm:∀a v,f a=some v→g a=some v){aS:List AV}{v:α}(h:one f aS=some v):one g aS=some v:=by
 unfold one at h ⊢
 split at h<;>first | (cases h;done) | exact hm _ _ h
theorem OD{α:Type}{f g:AV→AV→Option α}(hm:∀a b v,f a b=some v→g a b=some v){aS:List AV}{v:α}(h:Xx f aS=some v):Xx g aS=some v:=by
 unfold Xx at h ⊢
 split at h<;>first | (cases h;done) | exact hm _ _ _ h
theorem TY(h:s.sub s2){o:Op}{sh:Sh}{xs:List Operand}{aS:List AV}{v:AV}(hsh:At P o=some (sh,xs))(hr:Dl sh aS s=some v):Dl sh aS s2=some v:=by
 cases o<;>first | (simp[At]at hsh;done) | skip
 case binOp op t x y f =>
  simp only[At]at hsh
  split at hsh
  ·injection hsh with hsh;injection hsh with h1 h2;subst h1;exact OD (fun _ _ _=>OJ h) hr
  ·injection hsh with hsh;injection hsh with h1 h2;subst h1;cases hr
 case load t a=>injection hsh with hsh;injection hsh with h1 h2;subst h1;exact OE (fun _ _=>P4 h) hr
 case lookup t m k ok=>obtain⟨_,hsh⟩:=AA hsh;injection hsh with hsh;injection hsh with h1 h2;subst h1;exact OD (fun _ _ _=>Mn h) hr
 case convert src dst x=>injection hsh with hsh;injection hsh with h1 h2;subst h1;exact OE (fun _ _=>Pl h) hr
 case slice t x lo hi mx=>injection hsh with hsh;injection hsh with h1 h2;subst h1;exact I0 h hr
 case call c =>
  obtain⟨callee,args,argTypes⟩:=c
  simp only[At]at hsh
  split at hsh<;>first | (cases hsh;done) | (injection hsh with hsh;injection hsh with h1 h2;subst h1;cases hr;done) | (split at hsh<;>(injection hsh with hsh;injection hsh with h1 h2;subst h1;cases hr);done) | skip
  split at hsh<;>first | (cases hsh;done) | (injection hsh with hsh;injection hsh with h1 h2;subst h1;cases hr;done) | skip
  ·split at hsh<;>first | (cases hsh;done) | skip
   injection hsh with hsh;injection hsh with h1 h2;subst h1
   simp only[Dl]at hr ⊢
   split at hr<;>first | (cases hr;done) | exact TL h hr
  ·split at hsh<;>first | (cases hsh;done) | skip
   injection hsh with hsh;injection hsh with h1 h2;subst h1
   simp only[Dl]at hr ⊢
   split at hr<;>first | (cases hr;done) | exact S7 h hr
  ·split at hsh<;>first | (cases hsh;done) | skip
   obtain⟨_,hsh⟩:=AA hsh
   injection hsh with hsh;injection hsh with h1 h2;subst h1;cases hr
 case makeMap t r =>
  cases r with
  | some _=>cases hsh
  | none=>obtain⟨_,hsh⟩:=AA hsh;injection hsh with hsh;injection hsh with h1 h2;subst h1;cases hr
 case mapUpdate t m k x=>obtain⟨_,hsh⟩:=AA hsh;injection hsh with hsh;injection hsh with h1 h2;subst h1;cases hr
 case insert t m k x=>obtain⟨_,hsh⟩:=AA hsh;injection hsh with hsh;injection hsh with h1 h2;subst h1;cases hr
 case makeFunc fn first captured =>
  cases fn with
  | func f=>injection hsh with hsh;injection hsh with h1 h2;subst h1;cases hr
  | _=>cases hsh
 all_goals (injection hsh with hsh;injection hsh with h1 h2;subst h1;cases hr)
end
theorem Mu(l:List AV)(i:Nat):If l i=l.getD i BU:=by
  induction l generalizing i with
  | nil=>rfl
  | cons a l ih =>
    cases i with
    | zero=>rfl
    | succ i=>exact ih i
theorem IF{l:List AV}{i:Nat}{v:AV}(h:l[i]? = some v):If l i=v:=by rw[Mu];simp[h]
theorem Df(v:AV)(l:List AV)(i:Nat):E3 v l i=l.set i v:=by
  induction l generalizing i with
  | nil=>rfl
  | cons a l ih =>
    cases i with
    | zero=>rfl
    | succ i=>exact congrArg (a::·) (ih i)
theorem HX{v:AV}{l:List AV}{i:Nat}(h:i<l.length):If (E3 v l i) i=v:=by
 rw[Mu,Df];simp[h]
theorem Ea{v:AV}{l:List AV}{i j:Nat}(h:i≠j):If (E3 v l j) i=If l i:=by
 rw[Mu,Mu,Df];simp[gy (Ne.symm h)]
theorem ER{vars:List Tmp}{t:Tmp}:∀ {j:Nat},Ao vars t=some j→vars[j]? = some t:=by
 induction vars with
 | nil=>intro j h;cases h
 | cons a l ih =>
  intro j h
  unfold Ao at h
  cases hb:Nat.beq a t with
  | true =>
   rw[hb]at h
   simp only[cond_true,Option.some.injEq]at h
   subst h
   rw[Ad hb]
   rfl
  | false =>
   rw[hb]at h
   simp only[cond_false,ft]at h
   obtain⟨i,h1,h2⟩:=h
   injection h2 with h2
   subst h2
   exact ih h1
theorem Cj{vars:List Tmp}{t:Tmp}{j:Nat}(h:Ao vars t=some j):j<vars.length:=by
 have:=ER h
 rcases fv j vars.length with h' | h'
 ·exact h'
 ·rw[gH h']at this;cases this
theorem Fx{vars:List Tmp}{t u:Tmp}{j:Nat}(h:Ao vars t=some j)(k:Ao vars u=some j):t=u:=by
 have h1:=ER h
 have h2:=ER k
 rw[h1]at h2
 injection h2
mutual
theorem D9     : ∀ {a b : AV}, EV  a b = true → a = b := by
  intro a b h
  unfold EV at h
  split at h
  · simp at h;rw[h]
  · simp only[Bool.and_eq_true]at h;have:=CK h.1;subst this;have h2:=h.2;rw[EW]at h2;simp at h2;rw[h2]
  · rename_i x y
    have:∀x y:List Nat,CB x y=true→x=y:=by
      intro x
      induction x with
      | nil=>intro y h;cases y with | nil=>rfl | cons=>cases h
      | cons a x ih =>
        intro y h
        cases y with
        | nil=>cases h
        | cons b y =>
          unfold CB at h
          cases hb:Nat.beq a b with
          | true=>rw[hb]at h;rw[Ad hb,ih y h]
          | false=>rw[hb]at h;cases h
    rw[this _ _ h]
  · rfl
  · simp only[Bool.and_eq_true]at h;rw[Ad h.1,Ad h.2]
  · simp only[Bool.and_eq_true]at h;rw[Ad h.1,Ad h.2]
  · simp only[Bool.and_eq_true]at h;rw[Ad h.1,Ad h.2]
  · rw[Ad h]
  · simp only[Bool.and_eq_true]at h;rw[Ad h.1.1,Ad h.1.2,Ad h.2]
  · simp only[Bool.and_eq_true]at h;rw[Ad h.1.1.1,Ad h.1.1.2,Ad h.1.2,Ad h.2]
  · rfl
  · rw[Ad h]
  · simp only[Bool.and_eq_true]at h;rw[Ad h.1.1,FD h.1.2,FD h.2]
  · rfl
  · rfl
  · rw[Ad h]
  · rw[FD h]
  · rw[FD h]
  · cases h
theorem FD:∀ {a b:List AV},EV.eqAs a b=true→a=b:=by
 intro a b h
 unfold EV.eqAs at h
 split at h
 ·rfl
 ·simp only[Bool.and_eq_true]at h;rw[D9 h.1,FD h.2]
 ·cases h
end
abbrev Bp:=Tmp→Option AV
def Bp.put(R:Bp)(d:Option Tmp)(v:AV):Bp:=match d with
 | none=>R
 | some d=>fun t=>if t=d then some v else R t
def OM(R:Bp):Operand→Option AV
 | .tmp t=>R t
 | .const v=>ofValue v
 | .global g=>some (.gptr g 0)
 | .func f=>some (.func f [] [])
def DI(R:Bp):List Operand→Option (List AV)
 | []=>some []
 | x::l=>(OM R x).bind fun a=>(DI R l).bind fun r=>some (a::r)
def Hq(ops:Array Oper)(R:Bp)(o:Oper):Option Bool:=match o.guard with
 | none=>some true
 | some (j,want)=>(ops[j]?).bind fun p=>p.dst.bind fun d=>(R d).bind fun x=>bif dH x then none else some (di want x)
def ZN(F:Cv)(sh:Sh)(aS:List AV)(s:AE):Option (AV×AE):=
 match sh with
 | .call f=>F.call f aS s
 | .callv=>(match aS with | a::l=>Fg F a l s | []=>none)
 | _=>IM sh aS s
structure Ow where
 idx:Nat
 sh:Sh
 aS:List AV
 v:AV
 want:Bool
structure JQ(P:Program)(F:Cv)(ops:Array Oper)(nt:Nat)(R:Bp)(s:AE)(o:Oper)(sh:Sh)(want:Bool)(aS:List AV)(v:AV)(R1:Bp)(s1:AE):Prop where
 shape:∃xs,At P o.op=some (sh,xs)∧DI R xs=some aS
 wants:Hq ops R o=some want
 put:R1=R.put o.dst v
 lt:∀d,o.dst=some d→d<nt
 yes:want=true→ZN F sh aS s=some (v,s1)
 no:want=false→v=BU∧s1=s
inductive Trace (P:Program) (F:Cv) (ops:Array Oper) (nt:Nat) (b:Array Nat) (draw:Bool):List Nat→List Ow→Bp→AE→Bp→AE→Prop
 | nil {rs:List Ow} {R:Bp} {s:AE}:Trace P F ops nt b draw [] rs R s R s
 | cons {i:Nat} {l:List Nat} {rs:List Ow} {R R1 R2:Bp} {s s1 s2:AE} {o:Oper} {sh:Sh} {want:Bool} {aS:List AV} {v:AV}
   (ho:ops[i]? = some o) (hs:JQ P F ops nt R s o sh want aS v R1 s1)
   (ag:draw=true→sh.isEff=true→want=true→∀r∈rs,(b.getD i 0).testBit r.idx=false→r.want=true→Dl r.sh r.aS s1=some r.v)
   (hl:Trace P F ops nt b draw l (bif draw && sh.isRead then ⟨i,sh,aS,v,want⟩::rs else rs) R1 s1 R2 s2):Trace P F ops nt b draw (i::l) rs R s R2 s2
structure DX(vars:List Tmp)(c:ZO)(loc var:List AV)(R:Bp):Prop where
 vlen:var.length=vars.length
 bnd:∀t p,Dj c.map t=some (.loc p)→p<c.cnt
 keys:∀t x,Dj c.map t=some x→Ao vars t=none
 val:∀t x,Dm vars c t=some x→R t=some (CO loc var (B2 c.cnt x))
theorem TN:∀ {m:List (Tmp×CX)}{t:Tmp}{x:CX},Dj m t=some x→(t,x)∈m:=by
 intro m
 induction m with
 | nil=>intro t x h;cases h
 | cons p m ih =>
  obtain⟨a,y⟩:=p
  intro t x h
  unfold Dj at h
  cases hb:Nat.beq a t with
  | true =>
   rw[hb]at h
   simp only[cond_true,Option.some.injEq]at h
   rw[Ad hb,h]
   exact gC
  | false =>
   rw[hb]at h
   exact gG _ (ih h)
theorem N9:∀ {m:List (Tmp×CX)}{j:Nat},HW j m=true→∀t,(t,CX.var j) ∉ m:=by
 intro m
 induction m with
 | nil=>intro j h t hm;cases hm
 | cons p m ih =>
  obtain⟨a,y⟩:=p
  intro j h t hm
  simp only[HW,Bool.and_eq_true,Bool.not_eq_true']at h
  cases hm with
  | head=>simp[isVar]at h
  | tail _ hm=>exact ih h.2 t hm
theorem DH(m:List (Tmp×CX))(d t:Tmp)(x:CX):Dj ((d,x)::m) t=if t=d then some x else Dj m t:=by
 simp only[Dj]
 by_cases e:t=d
 ·subst e;simp
 ·have:Nat.beq d t=false:=by
   cases hb:Nat.beq d t with
   | true=>exact absurd (Ad hb).symm e
   | false=>rfl
  rw[this,if_neg e,cond_false]
theorem D3{loc var:List AV}{v:AV}{cnt:Nat}{x:CX}(h:∀p,x=.loc p→p<cnt):CO (v::loc) var (B2 (cnt+1) x)=CO loc var (B2 cnt x):=by
 cases x with
 | loc p =>
  have:=h p rfl
  simp only[B2,CO]
  rw[show cnt+1 - 1 - p=(cnt - 1 - p)+1 from by omega]
  rfl
 | var j=>rfl
 | const v=>rfl
variable{vars:List Tmp}{c:ZO}{loc var:List AV}{R:Bp}
theorem DX.push(h:DX vars c loc var R){d:Tmp}(v:AV)(hd:Ao vars d=none):DX vars { map:=(d,.loc c.cnt)::c.map,cnt:=c.cnt+1 } (v::loc) var (R.put (some d) v):=by
  refine⟨h.vlen,?_,?_,?_⟩
  · intro t p hp
    rw[DH]at hp
    split at hp
    · injection hp with hp;injection hp with hp;subst hp;exact gY _
    · exact iK (h.bnd t p hp)
  · intro t x hx
    rw[DH]at hx
    split at hx
    · rename_i e;subst e;exact hd
    · exact h.keys t x hx
  · intro t x hx
    unfold Dm at hx
    simp only[DH]at hx
    by_cases e:t=d
    · subst e
      simp only[if_true,Option.some.injEq]at hx
      subst hx
      simp only[Bp.put,if_true,B2,CO]
      rw[show c.cnt+1 - 1 - c.cnt=0 from by omega]
      rfl
    · simp only [if_neg e] at hx
      simp only[Bp.put,if_neg e]
      have hx':Dm vars c t=some x:=by unfold Dm;exact hx
      rw[h.val t x hx',D3]
      intro p hp
      subst hp
      cases hl:Dj c.map t with
      | some y=>rw[hl]at hx;injection hx with hx;subst hx;exact h.bnd t p hl
      | none=>rw[hl]at hx;simp only[ft]at hx;obtain⟨j,_,hx⟩:=hx;cases hx
theorem Kj(h:DX vars c loc var R){t:Tmp}{x:CX}(hx:Dm vars c t=some x):∀p,x=.loc p→p<c.cnt:=by
 intro p hp
 subst hp
 unfold Dm at hx
 cases hl:Dj c.map t with
 | some y=>rw[hl]at hx;injection hx with hx;subst hx;exact h.bnd t p hl
 | none=>rw[hl]at hx;simp only[ft]at hx;obtain⟨j,_,hx⟩:=hx;cases hx
theorem KJ(h:DX vars c loc var R){o:Operand}{x:CX}(hx:Dk vars c o=some x):∀p,x=.loc p→p<c.cnt:=by
 cases o with
 | tmp t=>exact Kj h hx
 | const v =>
  intro p hp
  subst hp
  simp only[Dk,ft]at hx
  obtain⟨a,_,hx⟩:=hx
  cases hx
 | global g=>intro p hp;subst hp;simp[Dk]at hx
 | func f=>intro p hp;subst hp;simp[Dk]at hx
theorem DX.pushNone(h:DX vars c loc var R)(v:AV):DX vars { c with cnt:=c.cnt+1 } (v::loc) var R:=by
 refine⟨h.vlen,fun t p hp=>iK (h.bnd t p hp),h.keys,?_⟩
 intro t x hx
 have hx':Dm vars c t=some x:=hx
 rw[h.val t x hx',D3 (Kj h hx')]
theorem DX.set   (h : DX   vars c loc var R) {d : Tmp} {j : Nat} (v : AV) (hd : Ao      vars d = some j) (hn : HW      j c.map = true) : DX   vars c loc (E3  v var j) (R.put (some d) v) := by
  refine⟨by rw[Df,iA];exact h.vlen,h.bnd,h.keys,?_⟩
  intro t x hx
  have hj:j<var.length:=by rw[h.vlen];exact Cj hd
  by_cases e:t=d
  · subst e
    unfold Dm at hx
    cases hl:Dj c.map t with
    | some y=>have:=h.keys t y hl;rw[hd]at this;cases this
    | none =>
      rw[hl,hd]at hx
      injection hx with hx
      subst hx
      simp only[Bp.put,if_true,B2,CO]
      rw[HX hj]
  · simp only[Bp.put,if_neg e]
    rw[h.val t x hx]
    congr 1
    cases x with
    | loc p=>rfl
    | const v=>rfl
    | var i =>
      simp only[B2,CO]
      rw[Ea]
      intro q
      subst q
      unfold Dm at hx
      cases hl:Dj c.map t with
      | some y=>rw[hl]at hx;injection hx with hx;subst hx;exact N9 hn t (TN hl)
      | none =>
        rw[hl]at hx
        simp only[ft]at hx
        obtain⟨k,hk,hx⟩:=hx
        injection hx with hx
        injection hx with hx
        subst hx
        exact e (Fx hk hd)
theorem DX.alias(h:DX vars c loc var R){d:Tmp}{o:Operand}{x:CX}(hx:Dk vars c o=some x)(hd:Ao vars d=none):
    DX vars { c with map:=(d,x)::c.map } loc var (R.put (some d) (CO loc var (B2 c.cnt x))):=by
  refine⟨h.vlen,?_,?_,?_⟩
  · intro t p hp
    rw[DH]at hp
    split at hp
    · injection hp with hp;subst hp;exact KJ h hx p rfl
    · exact h.bnd t p hp
  · intro t y hy
    rw[DH]at hy
    split at hy
    · rename_i e;subst e;exact hd
    · exact h.keys t y hy
  · intro t y hy
    unfold Dm at hy
    simp only[DH]at hy
    by_cases e:t=d
    · subst e
      simp only[if_true,Option.some.injEq]at hy
      subst hy
      simp only[Bp.put,if_true]
    · simp only [if_neg e] at hy
      simp only[Bp.put,if_neg e]
      exact h.val t y hy
theorem KL(h:DX vars c loc var R){o:Operand}{x:CX}(hx:Dk vars c o=some x):OM R o=some (CO loc var (B2 c.cnt x)):=by
 cases o with
 | tmp t=>exact h.val t x hx
 | const v =>
  simp only[Dk,ft]at hx
  obtain⟨a,h1,h2⟩:=hx
  injection h2 with h2
  subst h2
  exact h1
 | global g=>injection hx with hx;subst hx;rfl
 | func f=>injection hx with hx;subst hx;rfl
theorem LW(h:DX vars c loc var R):∀ {l:List Operand}{xs:List CX},Gu vars c l=some xs→DI R l=some (Cs loc var (xs.map (B2 c.cnt)))
 | [],xs,hx=>by injection hx with hx;subst hx;rfl
 | o::l,xs,hx=>by
  simp only[Gu,ft]at hx
  obtain⟨a,h1,r,h2,h3⟩:=hx
  injection h3 with h3
  subst h3
  simp only[DI,KL h h1,LW h h2,Option.bind_some,gN]
  rfl
theorem bO{F:Cv}{sh:Sh}{xs:List CX}{loc var:List AV}{s:AE}{p:AV×AE}(h:dV F sh xs loc var s=some p):ZN F sh (Cs loc var xs) s=some p:=by
 cases sh with
 | p1 f=>cases xs with
  | nil=>cases h
  | cons x l=>exact h
 | p2 f=>cases xs with
  | nil=>cases h
  | cons x l=>cases l with
   | nil=>cases h
   | cons y l=>exact h
 | p f=>exact h
 | r1 f=>cases xs with
  | nil=>cases h
  | cons x l=>exact h
 | r f=>exact h
 | mk f=>exact h
 | e f=>exact h
 | call f=>exact h
 | callv=>cases xs with
  | nil=>cases h
  | cons x l=>exact h
def MC(cnt:Nat)(x:CX):Prop:=∀p,x=.loc p→p<cnt
structure G6(loc var:List AV)(cnt:Nat)(r:Nat×FW)(q:Ow):Prop where
 idx:r.1=q.idx
 sh:r.2.sh=q.sh
 aS:Cs loc var (r.2.xs.map (B2 cnt))=q.aS
 v:CO loc var (B2 cnt r.2.ans)=q.v
 want:BK loc var (Ew cnt r.2.guard)=q.want
 bx:∀x∈r.2.xs,MC cnt x
 ba:∃p,r.2.ans=.loc p∧p<cnt
 bg:∀x b,r.2.guard=some (x,b)→MC cnt x
inductive Eg (loc var:List AV) (cnt:Nat):List (Nat×FW)→List Ow→Prop
 | nil:Eg loc var cnt [] []
 | cons {r:Nat×FW} {q:Ow} {l:List (Nat×FW)} {m:List Ow} (h:G6 loc var cnt r q) (hl:Eg loc var cnt l m):Eg loc var cnt (r::l) (q::m)
theorem H4{loc var:List AV}{v:AV}{cnt:Nat}:∀ {xs:List CX},(∀x∈xs,MC cnt x)→Cs (v::loc) var (xs.map (B2 (cnt+1)))=Cs loc var (xs.map (B2 cnt))
 | [],_=>rfl
 | x::l,h=>by
  show CO (v::loc) var (B2 (cnt+1) x)::Cs (v::loc) var (l.map (B2 (cnt+1)))=CO loc var (B2 cnt x)::Cs loc var (l.map (B2 cnt))
  rw[D3 (h x gC),H4 fun y hy=>h y (gG _ hy)]
theorem MC.succ{cnt:Nat}{x:CX}(h:MC cnt x):MC (cnt+1) x:=fun p hp=>iK (h p hp)
theorem G6.push{loc var:List AV}{cnt:Nat}{r:Nat×FW}{q:Ow}(h:G6 loc var cnt r q)(v:AV):G6 (v::loc) var (cnt+1) r q:=by
  obtain⟨p,hp,hlt⟩:=h.ba
  refine⟨h.idx,h.sh,(H4 h.bx).trans h.aS,?_,?_,fun x hx=>(h.bx x hx).succ,⟨p,hp,iK hlt⟩,fun x b e=>(h.bg x b e).succ⟩
  · rw [D3]
    · exact h.v
    · intro p' e;rw[hp]at e;injection e with e;subst e;exact hlt
  · rw[← h.want]
    cases hg:r.2.guard with
    | none=>rfl
    | some g =>
      obtain⟨x,b⟩:=g
      simp only[Ew,BK]
      rw[D3 (h.bg x b hg)]
theorem Eg.push{loc var:List AV}{cnt:Nat}{rs:List (Nat×FW)}{m:List Ow}(h:Eg loc var cnt rs m)(v:AV):Eg (v::loc) var (cnt+1) rs m:=by
 induction h with
 | nil=>exact .nil
 | cons h _ ih=>exact .cons (h.push v) ih
theorem R8{loc var:List AV}{v:AV}{j:Nat}{x:CX}(h:isVar j x=false):CO loc (E3 v var j) x=CO loc var x:=by
 cases x with
 | loc p=>rfl
 | const c=>rfl
 | var i =>
  simp only[CO]
  rw[Ea]
  intro e
  subst e
  simp[isVar]at h
theorem LH{cnt j:Nat}{x:CX}:isVar j (B2 cnt x)=isVar j x:=by cases x<;>rfl
theorem Nh{loc var:List AV}{v:AV}{j cnt:Nat}:∀ {xs:List CX},(xs.all fun x=>!isVar j x)=true→Cs loc (E3 v var j) (xs.map (B2 cnt))=Cs loc var (xs.map (B2 cnt))
 | [],_=>rfl
 | x::l,h=>by
  simp only[List.all_cons,Bool.and_eq_true,Bool.not_eq_true']at h
  show CO loc (E3 v var j) (B2 cnt x)::Cs loc (E3 v var j) (l.map (B2 cnt))=CO loc var (B2 cnt x)::Cs loc var (l.map (B2 cnt))
  rw[R8 (by rw[LH];exact h.1),Nh h.2]
theorem G6.set{loc var:List AV}{cnt j:Nat}{r:Nat×FW}{q:Ow}(h:G6 loc var cnt r q)(v:AV)(hf:M0 j r.2=true):G6 loc (E3 v var j) cnt r q:=by
 obtain⟨p,hp,hlt⟩:=h.ba
 simp only[M0,Bool.and_eq_true]at hf
 refine⟨h.idx,h.sh,(Nh hf.2).trans h.aS,?_,?_,h.bx,h.ba,h.bg⟩
 ·rw[← h.v,hp];rfl
 ·rw[← h.want]
  cases hg:r.2.guard with
  | none=>rfl
  | some g =>
   obtain⟨x,b⟩:=g
   have:=hf.1
   rw[hg]at this
   simp only[Bool.not_eq_true']at this
   simp only[Ew,BK]
   rw[R8 (by rw[LH];exact this)]
theorem Eg.set{loc var:List AV}{cnt j:Nat}{rs:List (Nat×FW)}{m:List Ow}(h:Eg loc var cnt rs m)(v:AV)(hf:(rs.all fun r=>M0 j r.2)=true):Eg loc (E3 v var j) cnt rs m:=by
 induction h with
 | nil=>exact .nil
 | cons h _ ih =>
  simp only[List.all_cons,Bool.and_eq_true]at hf
  exact .cons (h.set v hf.1) (ih hf.2)
theorem Ty       {s : AE}  {loc var : List AV} {cnt : Nat} {f : Nat × FW  → Bool} : ∀ {rs : List (Nat × FW)}  {m : List Ow},  Eg    loc var cnt rs m → DZ     s loc var ((rs.filter f).map fun r => Hf    cnt r.2) = true →
    ∀q∈m,(∀r:Nat×FW,r.1=q.idx→f r=true)→q.want=true→Dl q.sh q.aS s=some q.v:=by
  intro rs m h
  induction h with
  | nil=>intro _ q hq;cases hq
  | cons h hl ih =>
    rename_i r q l m
    intro hag q' hq' hf hw
    simp only[List.filter_cons]at hag
    cases hq' with
    | head =>
      rw[if_pos (hf r h.idx)]at hag
      have hag:(E8 s loc var (Hf cnt r.2) && DZ s loc var ((l.filter f).map fun r=>Hf cnt r.2))=true:=hag
      simp only[Bool.and_eq_true]at hag
      have h1:=hag.1
      simp only[E8,Hf,h.want,hw,Bool.not_true,Bool.false_or,h.aS,h.v,h.sh]at h1
      cases hr:Dl q.sh q.aS s with
      | none=>rw[hr]at h1;cases h1
      | some u =>
        rw[hr]at h1
        have:=D9 (show EV u q.v=true from h1)
        rw[this]
    | tail _ hq' =>
      refine ih ?_ q' hq' hf hw
      by_cases hfr:f r=true
      · rw[if_pos hfr]at hag
        have hag:(E8 s loc var (Hf cnt r.2) && DZ s loc var ((l.filter f).map fun r=>Hf cnt r.2))=true:=hag
        simp only[Bool.and_eq_true]at hag
        exact hag.2
      · rw[if_neg hfr]at hag
        exact hag
theorem Xt       {P : Program} {vars : List Tmp} {c : ZO}  {loc var : List AV} {R : Bp}   {ops : Array Oper} {o : Oper} {g : Option (CX × Bool)} (h : DX   vars c loc var R)
    (hg:(match o.guard with
        | none=>some none
        | some (j,want)=>(ops[j]?).bind fun p=>p.dst.bind fun d=>(Dm vars c d).bind fun x=>some (some (x,want)))=some g)
    (hj:Tt loc var (Ew c.cnt g)=false):
    Hq ops R o=some (BK loc var (Ew c.cnt g))∧∀x b,g=some (x,b)→MC c.cnt x:=by
  unfold Hq
  split at hg
  · rename_i he
    injection hg with hg
    subst hg
    try rw[he]
    exact⟨rfl,fun x b e=>by cases e⟩
  · rename_i j want he
    simp only[ft]at hg
    obtain⟨p,h1,d,h2,x,h3,h4⟩:=hg
    injection h4 with h4
    subst h4
    try rw[he]
    refine⟨?_,fun y b e=>by injection e with e;injection e with e1 e2;subst e1;exact Kj h h3⟩
    simp only[Ew,Tt]at hj
    simp only[h1,h2,Option.bind_some,h.val d x h3,Ew,BK,hj,cond_false]
theorem Pk         {P : Program} {F : Cv}  {nt : Nat} {vars : List Tmp} {ops : Array Oper} {b : Array Nat} {draw : Bool} :
    ∀ (l:List Nat) (c:ZO) (rs:List (Nat×FW)) (items:List AC) (loc var:List AV) (s:AE) (var':List AV) (s':AE) (R:Bp) (m:List Ow),
      Dt P nt vars ops b draw l c rs=some items→De F items loc var s=some (var',s')→DX vars c loc var R→Eg loc var c.cnt rs m →
      ∃R',Trace P F ops nt b draw l m R s R' s'∧∃c' loc',DX vars c' loc' var' R':=by
  intro l
  induction l with
  | nil =>
    intro c rs items loc var s var' s' R m hc hi hr hm
    injection hc with hc
    subst hc
    have hi:some (var,s)=some (var',s'):=hi
    injection hi with hi
    injection hi with h1 h2
    subst h1;subst h2
    exact⟨R,.nil,c,loc,hr⟩
  | cons i l ih =>
    intro c rs items loc var s var' s' R m hc hi hr hm
    simp only[Dt,ft]at hc
    obtain⟨o,ho,sh,hsh,xs,hxs,hc⟩:=hc
    split at hc
    ·
      rename_i x d hal hd
      obtain⟨hlt,hc⟩:=AA hc
      have hlt:d<nt:=by simpa[gE]using hlt
      have hx1:xs=[x]∧I1 vars (l.map fun j=>(ops.getD j default).dst) o x=true:=by
        split at hal
        · rename_i y
          cases ha:I1 vars (l.map fun j=>(ops.getD j default).dst) o y with
          | true=>rw[ha]at hal;injection hal with hal;subst hal;exact⟨rfl,ha⟩
          | false=>rw[ha]at hal;cases hal
        · cases hal
      obtain⟨rfl,ha⟩:=hx1
      simp only[I1,Bool.and_eq_true]at ha
      obtain⟨⟨⟨a1,a2⟩,a3⟩,_⟩:=ha
      split at a1<;>first | (cases a1;done) | skip
      rename_i y hop
      have hsh':sh=(.p1 some,[y]):=by rw[hop]at hsh;injection hsh with hsh;exact hsh.symm
      subst hsh'
      have hy:Dk vars c y=some x:=by
        simp only[Gu,ft]at hxs
        obtain⟨a,h1,r,h2,h3⟩:=hxs
        injection h3 with h3
        injection h3 with h3 h4
        subst h3
        exact h1
      rw[hd]at a3
      have hpd:Ao vars d=none:=by simpa using a3
      have hr':=hr.alias hy hpd
      obtain⟨R',t1,t2⟩:=ih _ rs items loc var s var' s' _ m hc hi hr' hm
      refine⟨R',.cons (sh:=.p1 some) (want:=true) (aS:=[CO loc var (B2 c.cnt x)]) (v:=CO loc var (B2 c.cnt x)) (R1:=R.put (some d) (CO loc var (B2 c.cnt x))) (s1:=s) ho ?_ ?_ ?_,t2⟩
      · refine ⟨⟨[y], hsh, ?_⟩, ?_, by rw [hd], ?_, fun _ => rfl, fun e => by cases e⟩
        · simp[DI,KL hr hy]
        · unfold Hq
          cases hg:o.guard with
          | none=>rfl
          | some g=>rw[hg]at a2;cases a2
        · intro d' e;rw[hd]at e;injection e with e;subst e;exact hlt
      · intro _ e;cases e
      · have:(draw && Sh.isRead (.p1 some))=false:=by cases draw<;>rfl
        rw[this]
        exact t1
    ·
      simp only[ft]at hc
      obtain⟨g,hg,q,hq,hc⟩:=hc
      obtain⟨hpush,hc⟩:=AA hc
      simp only[ft]at hc
      obtain⟨items',hc',hc⟩:=hc
      injection hc with hc
      subst hc
      have has:=LW hr hxs
      have hi:Id F _ (De F items') loc var s=some (var',s'):=hi
      have hj:Tt loc var (Ew c.cnt g)=false:=by
        cases hj:Tt loc var (Ew c.cnt g)with
        | false=>rfl
        | true=>unfold Id at hi;simp only[hj]at hi;cases hi
      obtain⟨hw,hgb⟩:=Xt (P:=P) hr hg hj
      have step:∃v s1,(BK loc var (Ew c.cnt g)=true→ZN F sh.1 (Cs loc var (xs.map (B2 c.cnt))) s=some (v,s1))∧(BK loc var (Ew c.cnt g)=false→v=BU∧s1=s) ∧
          CQ (bif BK loc var (Ew c.cnt g)then ((match draw,sh.1.isEff with
            | true,true=>rs.filter fun(r:Nat×FW)=>!(b.getD i 0).testBit r.1
            | _,_=>[]).map fun(r:Nat×FW)=>Hf q.2.cnt r.2)else []) q.1 (De F items') loc var v s1=some (var',s'):=by
        unfold Id at hi
        simp only[hj]at hi
        cases hwt:BK loc var (Ew c.cnt g)with
        | true =>
          simp only[hwt]at hi
          unfold JD at hi
          split at hi<;>first | (cases hi;done) | skip
          rename_i p hp
          exact⟨p.1,p.2,fun _=>bO hp,(fun e=>by cases e),hi⟩
        | false =>
          simp only[hwt]at hi
          exact⟨BU,s,(fun e=>by cases e),fun _=>⟨rfl,rfl⟩,hi⟩
      obtain⟨v,s1,st1,st2,st3⟩:=step
      have fin:∀ (loc1 var1:List AV),DX vars q.2 loc1 var1 (R.put o.dst v)→Eg loc1 var1 q.2.cnt rs m →
          ((draw && sh.1.isRead)=true→G6 loc1 var1 q.2.cnt (i,{ guard:=g,sh:=sh.1,xs,ans:=.loc c.cnt }) ⟨i,sh.1,Cs loc var (xs.map (B2 c.cnt)),v,BK loc var (Ew c.cnt g)⟩) →
          (∀d,o.dst=some d→d<nt) →
          DZ s1 loc1 var1 (bif BK loc var (Ew c.cnt g)then ((match draw,sh.1.isEff with
            | true,true=>rs.filter fun(r:Nat×FW)=>!(b.getD i 0).testBit r.1
            | _,_=>[]).map fun(r:Nat×FW)=>Hf q.2.cnt r.2)else [])=true→De F items' loc1 var1 s1=some (var',s') →
          ∃R',Trace P F ops nt b draw (i::l) m R s R' s'∧∃c' loc',DX vars c' loc' var' R':=by
        intro loc1 var1 f1 f2 f3 f4 f5 f6
        have hm':Eg loc1 var1 q.2.cnt (bif draw && sh.1.isRead then (i,{ guard:=g,sh:=sh.1,xs,ans:=.loc c.cnt })::rs else rs)
            (bif draw && sh.1.isRead then ⟨i,sh.1,Cs loc var (xs.map (B2 c.cnt)),v,BK loc var (Ew c.cnt g)⟩::m else m):=by
          cases hrd:(draw && sh.1.isRead)with
          | true=>exact .cons (f3 hrd) f2
          | false=>exact f2
        obtain⟨R',t1,t2⟩:=ih _ _ items' loc1 var1 s1 var' s' _ _ hc' f6 f1 hm'
        refine⟨R',.cons ho ⟨⟨sh.2,hsh,has⟩,hw,rfl,f4,st1,st2⟩ ?_ t1,t2⟩
        intro hd he hwt r hr1 hr2 hr3
        rw[hwt,hd,he]at f5
        simp only[cond_true]at f5
        exact Ty f2 f5 r hr1 (fun r' e=>by rw[e,hr2];rfl) hr3
      have newRd:∀ (loc1:List AV),loc1=v::loc→q.2.cnt=c.cnt+1→G6 loc1 var q.2.cnt (i,{ guard:=g,sh:=sh.1,xs,ans:=.loc c.cnt }) ⟨i,sh.1,Cs loc var (xs.map (B2 c.cnt)),v,BK loc var (Ew c.cnt g)⟩:=by
        intro loc1 e1 e2
        subst e1
        rw[e2]
        have hbx:∀x∈xs,MC c.cnt x:=by
          have:∀ (l:List Operand) (xs:List CX),Gu vars c l=some xs→∀x∈xs,MC c.cnt x:=by
            intro l
            induction l with
            | nil=>intro xs h;injection h with h;subst h;intro x hx;cases hx
            | cons a l ih =>
              intro xs h
              simp only[Gu,ft]at h
              obtain⟨y,h1,r,h2,h3⟩:=h
              injection h3 with h3
              subst h3
              intro x hx
              cases hx with
              | head=>exact KJ hr h1
              | tail _ hx=>exact ih r h2 x hx
          exact this _ _ hxs
        refine⟨rfl,rfl,H4 hbx,?_,?_,fun x hx=>(hbx x hx).succ,⟨c.cnt,rfl,gY _⟩,fun x b e=>(hgb x b e).succ⟩
        · simp only[B2,CO]
          rw[show c.cnt+1 - 1 - c.cnt=0 from by omega]
          rfl
        · cases g with
          | none=>rfl
          | some g =>
            obtain⟨x,b⟩:=g
            simp only[Ew,BK]
            rw[D3 (hgb x b rfl)]
      have ifsome:∀ {α:Type} {c:Bool} {x:Option α} {y:α},(bif c then x else none)=some y→c=true∧x=some y:=by
        intro α c x y h
        cases c with
        | true=>exact⟨rfl,h⟩
        | false=>cases h
      split at hq
      · rename_i hd
        injection hq with hq
        subst hq
        simp only[CQ]at st3
        obtain⟨k1,k2⟩:=ifsome st3
        have hput:R.put o.dst v=R:=by rw[hd];rfl
        exact fin (v::loc) var (by rw[hput];exact hr.pushNone v) (hm.push v) (fun _=>newRd _ rfl rfl) (fun d e=>by rw[hd]at e;cases e) k1 k2
      · rename_i d hd
        obtain⟨hlt,hq⟩:=AA hq
        have hlt:d<nt:=by simpa[gE]using hlt
        have hdl:∀d',o.dst=some d'→d'<nt:=fun d' e=>by rw[hd]at e;injection e with e;subst e;exact hlt
        split at hq
        · rename_i j hj
          obtain⟨hal,hq⟩:=AA hq
          injection hq with hq
          subst hq
          simp only[Bool.and_eq_true]at hal
          simp only[CQ]at st3
          obtain⟨k1,k2⟩:=ifsome st3
          refine fin loc (E3 v var j) (by rw[hd];exact hr.set v hj hal.1) (hm.set v hal.2) ?_ hdl k1 k2
          intro hrd
          rw[hrd]at hpush
          cases hpush
        · rename_i hj
          injection hq with hq
          subst hq
          simp only[CQ]at st3
          obtain⟨k1,k2⟩:=ifsome st3
          exact fin (v::loc) var (by rw[hd];exact hr.push v hj) (hm.push v) (fun _=>newRd _ rfl rfl) hdl k1 k2
def HN(r:Option Nat):Fence:={ Fence.wide with round:=r }
def D5(ρ:A4)(R:Bp)(tmps:Array Value):Prop:=∀ (t:Tmp)(v:AV),R t=some v→t<tmps.size∧AL ρ v (tmps.getD t undef)
def CU(P:Program)(ρ:A4)(s:AE)(w:World)(v:AV)(s1:AE):Ending→World→Prop
 | .returned v',w'=>∃ρ',AL ρ' v v'∧Av P ρ' s1 w'∧Fr ρ s w ρ' s1 w'
 | _,_=>False
inductive Cw (P:Program) (ρ:A4) (s:AE) (w:World) (v:AV) (s1:AE):Result Next→Prop
 | value {v':Value} {w':World} {ρ':A4} (hv:AL ρ' v v') (hi:Av P ρ' s1 w') (hf:Fr ρ s w ρ' s1 w'):Cw P ρ s w v s1 (.ok (.value v') w')
 | skip {w':World} {ρ':A4} (hv:AL ρ' v undef) (hi:Av P ρ' s1 w') (hf:Fr ρ s w ρ' s1 w'):Cw P ρ s w v s1 (.ok .skip w')
 | enter {f:FuncId} {args:Array Value} (h:CallsIn Fence.wide 0 P f args w (CU P ρ s w v s1)):Cw P ρ s w v s1 (.ok (.enter f args) w)
 | round {l:Nat} {f:FuncId} {tmps:Array Value} {assign body:Code} (h:RoundIn Fence.wide 0 P l f tmps assign body w (CU P ρ s w v s1)):Cw P ρ s w v s1 (.ok (.round l f tmps assign body) w)
def Ag(ρ:A4)(s:AE):Prop:=∀i,s.next≤i→ρ i=none∧s.heap.get i=none
structure ZP(P:Program)(F:Cv):Prop where
 call:∀ (ρ:A4) (s:AE) (w:World) (f:FuncId) (aS:List AV) (v:AV) (s1:AE) (as':Array Value),F.call f aS s=some (v,s1)→Av P ρ s w→Ag ρ s→AK ρ aS as'.toList →
  Cw P ρ s w v s1 ((callFunc f as').run P w)
 round:∀ (ρ:A4) (s:AE) (w:World) (l:Nat) (rb:RB) (aS:List AV) (v:AV) (s1:AE) (as':Array Value),F.round l aS s=some (v,s1)→Av P ρ s w→Ag ρ s→ρ l=some rb→AK ρ aS as'.toList →
  Cw P ρ s w v s1 ((Instr.yield rb.b as').run P w)
section
variable{P:Program}{ρ ρ1 ρ2:A4}{s s1 s2:AE}{w w1 w2:World}{R:Bp}{a:Act}{ops:Array Oper}
theorem D5.mono{tmps:Array Value}(h:D5 ρ R tmps)(le:ρ.le ρ1):D5 ρ1 R tmps:=fun t v hv=>⟨(h t v hv).1,(h t v hv).2.mono le⟩
theorem ON(h:D5 ρ R a.tmps){o:Operand}{v:AV}(hv:OM R o=some v):AL ρ v (a.eval o):=by
 cases o with
 | tmp t=>exact(h t v hv).2
 | const c=>exact Bi ρ hv
 | global g=>injection hv with hv;subst hv;exact .gptr g 0
 | func f=>injection hv with hv;subst hv;exact .func .nil .nil
theorem II(h:D5 ρ R a.tmps):∀ {xs:List Operand}{aS:List AV},DI R xs=some aS→AK ρ aS (xs.map a.eval)
 | [],aS,e=>by injection e with e;subst e;exact .nil
 | x::l,aS,e=>by
  simp only[DI,ft]at e
  obtain⟨v,h1,r,h2,h3⟩:=e
  injection h3 with h3
  subst h3
  exact .cons (ON h h1) (II h h2)
theorem BD(a:Act)(d:Option Tmp)(v:Value):(a.put d v).tmps.size=a.tmps.size:=by cases d<;>simp[Act.put]
theorem Bl(a:Act)(d:Option Tmp)(v:Value):(a.put d v).defers=a.defers:=by cases d<;>rfl
theorem D5.put   (h : D5   ρ R a.tmps) {d : Option Tmp} {v : AV} {v' : Value} (hd : ∀ t, d = some t → t < a.tmps.size) (hv : AL   ρ v v') : D5   ρ (R.put d v) (a.put d v').tmps := by
  cases d with
  | none=>exact h
  | some d =>
    intro t u hu
    simp only[Act.put,Array.size_setIfInBounds]
    by_cases e:t=d
    · subst e
      simp only[Bp.put,if_true,Option.some.injEq]at hu
      subst hu
      have:=hd t rfl
      exact⟨this,by simpa[Array.getD_eq_getD_getElem?,this]using hv⟩
    · simp only[Bp.put,if_neg e]at hu
      have:=h t u hu
      refine⟨this.1,?_⟩
      have e2:(a.tmps.setIfInBounds d v').getD t undef=a.tmps.getD t undef:=by
        simp[Array.getD_eq_getD_getElem?,Array.getElem?_setIfInBounds_ne (Ne.symm e)]
      rw[e2]
      exact this.2
theorem Ls(h:D5 ρ R a.tmps){o:Oper}{want:Bool}(hw:Hq ops R o=some want):Region.wanted o (yielded ops a.tmps)=want:=by
  unfold Hq at hw
  unfold Region.wanted
  split at hw
  · rename_i hg;rw[hg];injection hw
  · rename_i j b hg
    rw[hg]
    simp only[ft]at hw
    obtain⟨p,h1,d,h2,x,h3,h4⟩:=hw
    have hnj:dH x=false:=by
      cases hj:dH x with
      | false=>rfl
      | true=>rw[hj]at h4;cases h4
    rw[hnj]at h4
    injection h4 with h4
    subst h4
    obtain⟨hlt,hv⟩:=h d x h3
    have hy:yielded ops a.tmps j=(match a.tmps.getD d undef with | .bool b=>some b | _=>none):=by
      unfold yielded
      rw[h1]
      simp only[Option.bind_some,h2]
      rw[Array.getElem?_eq_getElem hlt,show a.tmps.getD d undef=a.tmps[d]from by simp[Array.getD_eq_getD_getElem?,hlt]]
      cases a.tmps[d]<;>rfl
    simp only[hy]
    generalize a.tmps.getD d undef=y at hv
    cases hv with
    | any h=>cases hnj
    | _=>first | rfl | (rename_i c;cases c<;>cases b<;>rfl)
theorem XK{F:Cv}(hF:ZP P F)(h:Av P ρ s w)(hf:Ag ρ s){f v:AV}{f':Value}{aS:List AV}{as':Array Value}(hc:Fg F f aS s=some (v,s1))(hv:AL ρ f f')(ha:AK ρ aS as'.toList):
  Cw P ρ s w v s1 ((do let d ← Deferred.ofValue f' as';invoke d.target d.args:Sem Next).run P w):=by
 unfold Fg at hc
 split at hc<;>first | (cases hc;done) | skip
 ·cases hv with
  | func h1 h2 =>
   rename_i f x c x' c'
   have:=hF.call ρ s w f _ v s1 ((x'++as')++c') hc h hf (by simpa using h1.append (ha.append h2))
   simpa[Deferred.ofValue,invoke]using this
 ·cases hv with
  | yield h1 =>
   rename_i l rb
   have:=hF.round ρ s w l rb _ v s1 as' hc h hf h1 ha
   simpa[Deferred.ofValue,invoke]using this
theorem Bx.next{sem:Sem Next}{v:AV}(h:Bx P ρ s w sem v s1):Cw P ρ s w v s1 (sem.run P w):=by
 obtain⟨v',w',ρ',h1,h2,h3,h4⟩:=h
 rcases h1 with h1 | ⟨h1,e⟩
 ·rw[h1];exact .value h2 h3 h4
 ·subst e;rw[h1];exact .skip h2 h3 h4
theorem Th        {F : Cv}  (hF : ZP  P F) (h : Av  P ρ s w) (hf : Ag     ρ s) {o : Oper} {sh : Sh} {xs : List Operand} {aS : List AV} {v : AV} {ev : Operand → Value} (hev : ∀ f, ev (.func f) = .func (.func f) #[] #[]) (hsh : At      P o.op = some (sh, xs)) (ha : AK    ρ aS (xs.map ev)) (hr : ZN  F sh aS s = some (v, s1)) :
    Cw P ρ s w v s1 ((execOp ev o).run P w):=by
  have plain:IM sh aS s=some (v,s1)→Cw P ρ s w v s1 ((execOp ev o).run P w):=fun hl=>(cJ h (hf _ (fu _)).1 hev hsh ha hl).next
  have calls:(∀f,sh≠.call f)→sh≠.callv→Cw P ρ s w v s1 ((execOp ev o).run P w):=by
    intro h1 h2
    refine plain ?_
    cases sh<;>first | exact hr | exact absurd rfl (h1 _) | exact absurd rfl h2
  have isCall:(∃f,sh=.call f)∨sh=.callv→∃c,o.op=.call c:=by
    intro hc
    cases ho:o.op<;>rw[ho]at hsh<;>first | exact⟨_,rfl⟩ | (simp[At]at hsh;done) | skip
    case binOp op t x y f =>
      simp only[At]at hsh
      split at hsh<;>(injection hsh with hsh;injection hsh with e1 e2;subst e1;rcases hc with⟨_,hc⟩ | hc<;>cases hc)
    case makeMap t r =>
      cases r with
      | some _=>cases hsh
      | none=>obtain⟨_,hsh⟩:=AA hsh;injection hsh with hsh;injection hsh with e1 e2;subst e1;rcases hc with⟨_,hc⟩ | hc<;>cases hc
    case makeFunc fn first captured =>
      cases fn with
      | func f=>injection hsh with hsh;injection hsh with e1 e2;subst e1;rcases hc with⟨_,hc⟩ | hc<;>cases hc
      | _=>cases hsh
    all_goals first | (injection hsh with hsh;injection hsh with e1 e2;subst e1;rcases hc with⟨_,hc⟩ | hc<;>cases hc;done) | (obtain⟨_,hsh⟩:=AA hsh;injection hsh with hsh;injection hsh with e1 e2;subst e1;rcases hc with⟨_,hc⟩ | hc<;>cases hc)
  by_cases hc:(∃f,sh=.call f)∨sh=.callv
  · obtain⟨⟨callee,args,argTypes⟩,ho⟩:=isCall hc
    rw[ho]at hsh
    have hx:∀g,callee=.value g→execOp ev o=(do let d ← Deferred.ofValue (ev g) (args.map ev);invoke d.target d.args):=by
      intro g hg
      subst hg
      simp only[execOp,ho,resolve]
    have notB:∀b,callee≠.builtin b:=by
      intro b e
      subst e
      simp only[At]at hsh
      split at hsh<;>first | (cases hsh;done) | skip
      all_goals first
        | (injection hsh with hsh;injection hsh with e1 e2;subst e1;rcases hc with⟨_,hc⟩ | hc<;>cases hc;done)
        | (split at hsh<;>first | (cases hsh;done) | (injection hsh with hsh;injection hsh with e1 e2;subst e1;rcases hc with⟨_,hc⟩ | hc<;>cases hc;done) | (obtain⟨_,hsh⟩:=AA hsh;injection hsh with hsh;injection hsh with e1 e2;subst e1;rcases hc with⟨_,hc⟩ | hc<;>cases hc;done))
    simp only[At]at hsh
    split at hsh
    · rename_i f
      split at hsh
      · injection hsh with hsh;injection hsh with e1 e2;subst e1;rcases hc with⟨_,hc⟩ | hc<;>cases hc
      injection hsh with hsh;injection hsh with e1 e2;subst e1;subst e2
      rw[hx _ rfl,hev]
      have:=hF.call ρ s w f aS v s1 (args.map ev) hr h hf (by simpa using ha)
      simpa[Deferred.ofValue,invoke]using this
    · rename_i x _
      injection hsh with hsh;injection hsh with e1 e2;subst e1;subst e2
      rw[hx _ rfl]
      cases ha with
      | cons h1 h2=>exact XK hF h hf hr h1 (by simpa using h2)
    · cases hsh
    · exact absurd rfl (notB _)
  · exact calls (fun f e=>hc (.inl ⟨f,e⟩)) (fun e=>hc (.inr e))
end
section
variable{P:Program}{ρ ρ1 ρ2:A4}{s s1 s2:AE}{w w1 w2:World}{R:Bp}{a:Act}{ops:Array Oper}{rnd:Option Nat}{Q:Exit→Act→World→Prop}
theorem IW{n:Nat}{f:FuncId}{args:Array Value}{Rr:Ending→World→Prop}(h:CallsIn Fence.wide n P f args w Rr):CallsIn (HN rnd) n P f args w Rr:=h
theorem OQ{n l:Nat}{f:FuncId}{tmps:Array Value}{assign body:Code}{Rr:Ending→World→Prop}(h:RoundIn Fence.wide n P l f tmps assign body w Rr):RoundIn (HN rnd) n P l f tmps assign body w Rr:=h
theorem Ag.step(h:Ag ρ s)(k:Fr ρ s w ρ1 s1 w1):Ag ρ1 s1:=fun i hi =>
 ⟨k.fresh i (h i (fx k.next hi)).1 (.inr hi),(k.unborn i (h i (fx k.next hi)).1 (.inr hi)).trans (h i (fx k.next hi)).2⟩
theorem LU{o:Oper}{v:AV}{K:Act→World→Prop}{r:Result Next}(h:Cw P ρ s w v s1 r)
    (hk:∀v' w' ρ',AL ρ' v v'→Av P ρ' s1 w'→Fr ρ s w ρ' s1 w'→K (a.put o.dst v') w'):o.uponIn (HN rnd) 0 P a K Q r:=by
  cases h with
  | value hv hi hf=>exact hk _ _ _ hv hi hf
  | skip hv hi hf=>exact hk _ _ _ hv hi hf
  | enter h =>
    refine⟨fun e=>(by cases e),IW (CallsIn.mono h ?_)⟩
    intro e w' he
    cases e with
    | returned v'=>obtain⟨ρ',h1,h2,h3⟩:=he;exact hk _ _ _ h1 h2 h3
    | panicked c=>exact he.elim
    | outgrown=>exact he.elim
  | round h =>
    refine⟨fun e=>(by cases e),OQ (RoundIn.mono h ?_)⟩
    intro e w' he
    cases e with
    | returned v'=>obtain⟨ρ',h1,h2,h3⟩:=he;exact hk _ _ _ h1 h2 h3
    | panicked c=>exact he.elim
    | outgrown=>exact he.elim
theorem LV{o:Oper}{x:Sh×List Operand}(h:At P o.op=some x):∀c,o.op≠.defer c:=by
 intro c e
 rw[e]at h
 simp[At]at h
theorem Sj{F:Cv}(hF:ZP P F)(h:Av P ρ s w)(hf:Ag ρ s){nt i:Nat}{o:Oper}{sh:Sh}{want:Bool}{aS:List AV}{v:AV}{R1:Bp}{K:Act→World→Prop}(ho:ops[i]? = some o)
  (hs:JQ P F ops nt R s o sh want aS v R1 s1) (hr:D5 ρ R a.tmps) (hnt:nt≤a.tmps.size)
  (hk:∀v' w' ρ',AL ρ' v v'→Av P ρ' s1 w'→Fr ρ s w ρ' s1 w'→K (a.put o.dst v') w'):wpOpIn (HN rnd) 0 P ops Q i K a w:=by
 unfold wpOpIn
 rw[ho]
 simp only
 obtain⟨xs,hsh,has⟩:=hs.shape
 rw[Ls hr hs.wants]
 cases want with
 | true =>
  simp only[if_true]
  refine⟨fun _ _=>trivial,?_⟩
  rw[Oper.semAt_eq _ _ _ (LV hsh)]
  exact LU (Th hF h hf (fun _=>rfl) hsh (II hr has) (hs.yes rfl)) hk
 | false =>
  simp only[Bool.false_eq_true,if_false]
  refine⟨fun _ _=>trivial,?_⟩
  obtain⟨rfl,rfl⟩:=hs.no rfl
  exact hk undef w ρ (Cq ρ) h (Fr.refl _ _ _)
theorem To        {F : Cv}  (hF : ZP  P F) {nt : Nat} {b : Array Nat} {draw : Bool} {R2 : Bp}   :
    ∀ {l:List Nat} {m:List Ow} {R:Bp} {s:AE} {ρ:A4} {a:Act} {w:World},Trace P F ops nt b draw l m R s R2 s2→Av P ρ s w→Ag ρ s→D5 ρ R a.tmps→nt≤a.tmps.size →
      (∀a' w' ρ',Av P ρ' s2 w'→Ag ρ' s2→Fr ρ s w ρ' s2 w'→D5 ρ' R2 a'.tmps→a'.tmps.size=a.tmps.size→a'.defers=a.defers→Q .normal a' w') →
      wpOpsIn (HN rnd) 0 P ops Q l a w:=by
  intro l
  induction l with
  | nil =>
    intro m R s ρ a w ht h hf hr hnt hq
    cases ht
    exact hq a w ρ h hf (Fr.refl _ _ _) hr rfl rfl
  | cons i l ih =>
    intro m R s ρ a w ht h hf hr hnt hq
    cases ht with
    | cons ho hs ag hl =>
      rename_i R1 s1 o sh want aS v
      rw[wpOpsIn_cons]
      refine Sj hF h hf ho hs hr hnt ?_
      intro v' w' ρ' h1 h2 h3
      refine ih hl h2 (hf.step h3) ?_ (by rw[BD];exact hnt) ?_
      · rw[hs.put]
        exact(hr.mono h3.le).put (fun t e=>fy (hs.lt t e) hnt) h1
      · intro a' w'' ρ'' g1 g2 g3 g4 g5 g6
        exact hq a' w'' ρ'' g1 g2 (h3.trans g3) g4 (by rw[g5,BD]) (by rw[g6,Bl])
end
def Dp(acc:Array Nat)(o:Oper):Nat:=o.after.foldl (fun s e=>if Region.binds .any e then s ||| 2 ^ e.on ||| acc.getD e.on 0 else s) 0
theorem MA           (acc : Array Nat) (o : Oper) (k : Nat) (h : (Dp      acc o).testBit k = true) : ∃ e ∈ o.after, Region.binds .any e = true ∧ (k = e.on ∨ (acc.getD e.on 0).testBit k = true) := by
  unfold Dp at h
  rw[← Array.foldl_toList]at h
  have key:∀ (l:List Edge) (s:Nat),(l.foldl (fun s e=>if Region.binds .any e then s ||| 2 ^ e.on ||| acc.getD e.on 0 else s) s).testBit k=true →
      s.testBit k=true∨∃e∈l,Region.binds .any e=true∧(k=e.on∨(acc.getD e.on 0).testBit k=true):=by
    intro l
    induction l with
    | nil=>intro s h;exact .inl h
    | cons e l ih =>
      intro s h
      simp only[List.foldl_cons]at h
      rcases ih _ h with h | ⟨e',he',h1,h2⟩
      · by_cases hb : Region.binds .any e = true
        · rw[if_pos hb]at h
          simp only[Nat.testBit_or,Bool.or_eq_true,Nat.testBit_two_pow]at h
          rcases h with(h | h) | h
          · exact .inl h
          · exact .inr ⟨e,gC,hb,.inl (by simpa using (of_decide_eq_true h).symm)⟩
          · exact .inr ⟨e,gC,hb,.inr h⟩
        · rw[if_neg hb]at h
          exact .inl h
      · exact .inr ⟨e',gG _ he',h1,h2⟩
  rcases key _ _ h with h | ⟨e,he,h1,h2⟩
  · simp at h
  · exact⟨e,Array.mem_toList_iff.1 he,h1,h2⟩
theorem NV          (ops : Array Oper) : ∀ i k, ((Region.before ops).getD i 0).testBit k = true → ∃ o, ops[i]? = some o ∧ ∃ e ∈ o.after, Region.binds .any e = true ∧ (k = e.on ∨ ((Region.before ops).getD e.on 0).testBit k = true) := by
  have key:∀ (l pre:List Oper) (acc:Array Nat),acc.size=pre.length →
      (∀i k,(acc.getD i 0).testBit k=true→∃o,pre[i]? = some o∧∃e∈o.after,Region.binds .any e=true∧(k=e.on∨(acc.getD e.on 0).testBit k=true)) →
      ∀i k,((l.foldl (fun acc o=>acc.push (Dp acc o)) acc).getD i 0).testBit k=true→∃o,(pre++l)[i]? = some o∧∃e∈o.after,Region.binds .any e=true∧(k=e.on∨((l.foldl (fun acc o=>acc.push (Dp acc o)) acc).getD e.on 0).testBit k=true):=by
    intro l
    induction l with
    | nil=>intro pre acc hs h;simpa using h
    | cons o l ih =>
      intro pre acc hs h
      simp only[List.foldl_cons]
      have:=ih (pre++[o]) (acc.push (Dp acc o)) (by simp[hs]) ?_
      · simpa using this
      · have up:∀j k,(acc.getD j 0).testBit k=true→((acc.push (Dp acc o)).getD j 0).testBit k=true:=by
          intro j k hj
          rcases fv j acc.size with hlt | hge
          · simpa[Array.getD_eq_getD_getElem?,Array.getElem?_push,Nat.ne_of_lt hlt]using hj
          · simp[Array.getD_eq_getD_getElem?,Array.getElem?_eq_none hge]at hj
        intro i k hi
        rcases iL i acc.size with hlt | heq | hgt
        · have hi':(acc.getD i 0).testBit k=true:=by
            simpa[Array.getD_eq_getD_getElem?,Array.getElem?_push,Nat.ne_of_lt hlt]using hi
          obtain⟨o',h1,e,h2,h3,h4⟩:=h i k hi'
          refine⟨o',?_,e,h2,h3,h4.imp id (up _ _)⟩
          rw[gi (by omega)]
          exact h1
        · subst heq
          have hi':(Dp acc o).testBit k=true:=by
            simpa[Array.getD_eq_getD_getElem?]using hi
          obtain⟨e,h2,h3,h4⟩:=MA acc o k hi'
          refine⟨o,?_,e,h2,h3,h4.imp id (up _ _)⟩
          rw[hs]
          simp
        · have:(acc.push (Dp acc o))[i]? = none:=Array.getElem?_eq_none (by simp;omega)
          simp[Array.getD_eq_getD_getElem?,this]at hi
  intro i k h
  have h0:Region.before ops=ops.toList.foldl (fun acc o=>acc.push (Dp acc o)) #[]:=by
    unfold Region.before
    rw[← Array.foldl_toList]
    rfl
  rw[h0]at h ⊢
  obtain⟨o,h1,h2⟩:=key ops.toList [] #[] rfl (by intro i k h;simp at h) i k h
  exact⟨o,by simpa using h1,h2⟩
theorem TQ{P:Program}{o:Oper}{sh:Sh}{xs:List Operand}(h:At P o.op=some (sh,xs)){t:Tmp}(ht:Operand.tmp t∈xs):t∈FM P o:=by
 unfold FM
 rw[h]
 refine List.mem_append_right _ (List.mem_filterMap.2 ⟨.tmp t,ht,rfl⟩)
structure Hu(P:Program)(ops:Array Oper)(b:Array Nat)(π:List Nat):Prop where
 len:π.length=ops.size
 lt:∀p i:Nat,π[p]? = some i→i<ops.size
 inj:∀p q i:Nat,π[p]? = some i→π[q]? = some i→p=q
 edge:∀ (p i:Nat) (o:Oper),π[p]? = some i→ops[i]? = some o→∀e∈o.after,Region.binds .any e=true→∃q,q<p∧π[q]? = some e.on
 eff:∀ (p q i j:Nat) (o:Oper),π[p]? = some i→π[q]? = some j→q<p→ops[j]? = some o→Nk P o=true→(b.getD i 0).testBit j=true
 guard:∀ (p i:Nat) (o:Oper) (j:Nat) (w:Bool),π[p]? = some i→ops[i]? = some o→o.guard=some (j,w)→(b.getD i 0).testBit j=true
 wdst:∀ (p q i j:Nat) (o u:Oper) (d:Tmp),π[p]? = some i→π[q]? = some j→q<p→ops[i]? = some o→ops[j]? = some u→o.dst=some d→u.dst≠some d∧(d∈FM P u→(b.getD i 0).testBit j=true)
 rdst:∀ (p q i j:Nat) (o u:Oper) (d:Tmp),π[p]? = some i→π[q]? = some j→q<p→ops[i]? = some o→ops[j]? = some u→u.dst=some d→d∈FM P o→(b.getD i 0).testBit j=true
theorem KT{P:Program}{ops:Array Oper}{b:Array Nat}:∀ {l bef:List Nat},EH P ops b bef l=true →
  (bef++l).length=ops.size∧∀p i:Nat,l[p]? = some i→NC P ops b (bef++l.take p) i=true:=by
 intro l
 induction l with
 | nil=>intro bef h;exact⟨by simpa using Ad h,fun p i e=>by simp at e⟩
 | cons a l ih =>
  intro bef h
  simp only[EH,Bool.and_eq_true]at h
  obtain⟨h1,h2⟩:=ih h.2
  refine⟨by simpa using h1,?_⟩
  intro p i e
  cases p with
  | zero=>simp at e;subst e;simpa using h.1
  | succ p=>simpa using h2 p i (by simpa using e)
theorem DG{ops:Array Oper}{i:Nat}{o:Oper}(h:ops[i]? = some o):ops.getD i default=o:=by simp[Array.getD_eq_getD_getElem?,h]
theorem En{l:List Nat}{p j:Nat}:j∈l.take p↔∃q,q<p∧l[q]? = some j:=by
  rw[List.mem_iff_getElem?]
  constructor
  · rintro ⟨q, hq⟩
    rw[List.getElem?_take]at hq
    split at hq
    · exact⟨q,by assumption,hq⟩
    · cases hq
  · rintro⟨q,hlt,hq⟩
    exact⟨q,by rw[List.getElem?_take,if_pos hlt];exact hq⟩
theorem IG{P:Program}{ops:Array Oper}{b:Array Nat}{π:List Nat}(h:EH P ops b [] π=true):Hu P ops b π:=by
 obtain⟨hlen,hst⟩:=KT h
 simp only[List.nil_append]at hlen hst
 have parts:=fun(p i:Nat) (e:π[p]? = some i)=>by
  have:=hst p i e
  unfold NC at this
  simpa only[Bool.and_eq_true,Bool.not_eq_true',Array.all_eq_true_iff_forall_mem,List.all_eq_true,Bool.or_eq_true]using this
 refine⟨hlen,?_,?_,?_,?_,?_,?_,?_⟩
 ·intro p i e
  have:=(parts p i e).1.1.1.1.1.1
  simpa[gE]using this
 ·have one:∀p q i:Nat,π[p]? = some i→π[q]? = some i→q<p→False:=by
   intro p q i e1 e2 hlt
   have:=(parts p i e1).1.1.1.1.1.2
   have hm:i∈π.take p:=En.2 ⟨q,hlt,e2⟩
   rw[List.contains_iff_mem.2 hm]at this
   cases this
  intro p q i e1 e2
  rcases iL p q with h' | h' | h'
  ·exact(one q p i e2 e1 h').elim
  ·exact h'
  ·exact(one p q i e1 e2 h').elim
 ·intro p i o e ho ed hed hb
  have:=(parts p i e).1.1.1.2
  rw[DG ho]at this
  rcases this ed hed with h' | h'
  ·rw[hb]at h';cases h'
  ·exact En.1 (List.contains_iff_mem.1 h')
 ·intro p q i j o e1 e2 hlt ho he
  have:=(parts p i e1).1.1.2 j (En.2 ⟨q,hlt,e2⟩)
  rw[DG ho,he]at this
  exact this.resolve_left (by simp)
 ·intro p i o j w e ho hg
  have:=(parts p i e).1.2
  rw[DG ho]at this
  exact this j (by simp[SU,hg])
 ·intro p q i j o u d e1 e2 hlt ho hu hd
  have:=((parts p i e1).2 j (En.2 ⟨q,hlt,e2⟩)).1
  rw[DG ho,DG hu,hd]at this
  simp only[Bool.and_eq_true,Bool.or_eq_true,Bool.not_eq_true',bne_iff_ne,ne_eq]at this
  refine⟨this.1,fun hm=>?_⟩
  rcases this.2 with h' | h'
  ·rw[List.contains_iff_mem.2 hm]at h';cases h'
  ·exact h'
 ·intro p q i j o u d e1 e2 hlt ho hu hd hm
  have:=((parts p i e1).2 j (En.2 ⟨q,hlt,e2⟩)).2
  rw[DG ho,DG hu,hd]at this
  simp only[Bool.or_eq_true,Bool.not_eq_true']at this
  rcases this with h' | h'
  ·rw[List.contains_iff_mem.2 hm]at h';cases h'
  ·exact h'
theorem OA       : ∀ (m : Nat) (l : List Nat), l.Nodup → (∀ x ∈ l, x < m) → l.length ≤ m := by
  intro m
  induction m with
  | zero =>
    intro l _ h
    cases l with
    | nil=>simp
    | cons a l=>exact absurd (h a gC) (by omega)
  | succ m ih =>
    intro l hn h
    by_cases hm:m∈l
    · have h1:=ih (l.erase m) (hn.erase m) (fun x hx=>by
        have hx:=(hn.mem_erase_iff).1 hx
        have:=h x hx.2
        have:=hx.1
        omega)
      rw[List.length_erase_of_mem hm]at h1
      omega
    · have:=ih l hn (fun x hx=>by
        have:=h x hx
        have:x≠m:=fun e=>hm (e▸hx)
        omega)
      omega
theorem Hu.onto     {P : Program} {ops : Array Oper} {b : Array Nat} {π : List Nat} (h : Hu     P ops b π) {i : Nat} (hi : i < ops.size) : ∃ p : Nat, π[p]? = some i := by
  have hn:π.Nodup:=by
    refine List.pairwise_iff_getElem.2 ?_
    intro p q hp hq hpq e
    have:=h.inj p q (π[q]) (by rw[f9 hp,e]) (f9 hq)
    omega
  by_cases hm:i∈π
  · exact List.mem_iff_getElem?.1 hm
  · have hn' : (i :: π).Nodup := gx.2              ⟨hm, hn⟩
    have:=OA ops.size (i::π) hn' (fun x hx=>by
      rcases hZ.1 hx with rfl | hx
      · exact hi
      · obtain⟨p,hp⟩:=List.mem_iff_getElem?.1 hx
        exact h.lt p x hp)
    simp only[gh,h.len]at this
    omega
structure K8 where
 R:Nat→Bp
 st:Nat→AE
 o:Nat→Oper
 sh:Nat→Sh
 want:Nat→Bool
 aS:Nat→List AV
 v:Nat→AV
structure PT(P:Program)(F:Cv)(ops:Array Oper)(nt:Nat)(b:Array Nat)(π:List Nat)(D:K8):Prop where
 op:∀p i:Nat,π[p]? = some i→ops[i]? = some (D.o p)
 step:∀p,p<π.length→JQ P F ops nt (D.R p) (D.st p) (D.o p) (D.sh p) (D.want p) (D.aS p) (D.v p) (D.R (p+1)) (D.st (p+1))
 ag:∀p q i j:Nat,π[p]? = some i→π[q]? = some j→q<p→(D.sh p).isEff=true→D.want p=true→(D.sh q).isRead=true→(b.getD i 0).testBit j=false→D.want q=true →
  Dl (D.sh q) (D.aS q) (D.st (p+1))=some (D.v q)
def Gd{α:Type}(a:α)(f:Nat→α):Nat→α
 | 0=>a
 | p+1=>f p
theorem Y8       {P : Program} {F : Cv}  {ops : Array Oper} {nt : Nat} {b : Array Nat} {l : List Nat} {m : List Ow}  {R R2 : Bp}   {s s2 : AE}  (h : Trace P F ops nt b true l m R s R2 s2) :
    ∃D:K8,PT P F ops nt b l D∧D.R 0=R∧D.st 0=s∧D.R l.length=R2∧D.st l.length=s2 ∧
      (∀p i:Nat,l[p]? = some i→(D.sh p).isEff=true→D.want p=true→∀r∈m,(b.getD i 0).testBit r.idx=false→r.want=true→Dl r.sh r.aS (D.st (p+1))=some r.v):=by
  induction h with
  | nil =>
    rename_i m R s
    exact⟨⟨fun _=>R,fun _=>s,fun _=>default,fun _=>.callv,fun _=>false,fun _=>[],fun _=>BU⟩,
      ⟨by intro p i h;simp at h,by intro p h;simp at h,by intro p q i j h;simp at h⟩,rfl,rfl,rfl,rfl,by intro p i h;simp at h⟩
  | cons ho hs ag hl ih =>
    rename_i i l m R R1 R2 s s1 s2 o sh want aS v
    obtain⟨D,h1,h2,h3,h4,h5,h6⟩:=ih
    refine⟨⟨Gd R D.R,Gd s D.st,Gd o D.o,Gd sh D.sh,Gd want D.want,Gd aS D.aS,Gd v D.v⟩,⟨?_,?_,?_⟩,rfl,rfl,h4,h5,?_⟩
    · intro p j hp
      cases p with
      | zero=>simp at hp;subst hp;exact ho
      | succ p=>exact h1.op p j (by simpa using hp)
    · intro p hp
      cases p with
      | zero=>simp only[Gd,h2,h3];exact hs
      | succ p=>exact h1.step p (by simpa using hp)
    · intro p q j k hp hq hlt he hw hr ht hwq
      cases p with
      | zero=>omega
      | succ p =>
        cases q with
        | zero =>
          simp at hq
          subst hq
          simp only[Gd]at hr hwq he hw ⊢
          refine h6 p j (by simpa using hp) he hw ⟨i,sh,aS,v,want⟩ ?_ ht hwq
          rw[hr]
          exact gC
        | succ q=>exact h1.ag p q j k (by simpa using hp) (by simpa using hq) (by omega) he hw hr ht hwq
    · intro p j hp he hw r hr ht hwr
      cases p with
      | zero =>
        simp at hp
        subst hp
        simp only[Gd,h3]at he hw ⊢
        exact ag rfl he hw r hr ht hwr
      | succ p =>
        refine h6 p j (by simpa using hp) he hw r ?_ ht hwr
        cases hb:(true && sh.isRead)with
        | true=>exact gG _ hr
        | false=>exact hr
theorem Iq{sh:Sh}{aS:List AV}{s:AE}{v:AV}(h:Dl sh aS s=some v):IM sh aS s=some (v,s):=by
  cases sh with
  | r1 f =>
    cases aS with
    | nil=>cases h
    | cons a l =>
      cases l with
      | nil=>have h:f s a=some v:=h;simp[IM,h,DC]
      | cons=>cases h
  | r f=>have h:f s aS=some v:=h;simp[IM,h,DC]
  | _=>cases h
theorem In          {P : Program} {R : Bp}   {o : Op} {sh : Sh} {xs : List Operand} {aS : List AV} {s s1 : AE}  {v : AV} (hsh : At      P o = some (sh, xs)) (he : DI     R xs = some aS) (hr : sh.isRead = true) (h : IM  sh aS s = some (v, s1)) :
    Dl sh aS s=some v∧s1=s:=by
  have one:∀x:Operand,xs=[x]→∃a,aS=[a]:=by
    intro x e
    subst e
    simp only[DI,ft]at he
    obtain⟨a,_,r,hr,he⟩:=he
    injection hr with hr
    injection he with he
    subst hr
    exact⟨a,he.symm⟩
  cases sh with
  | r1 f =>
    have:∃x,xs=[x]:=by
      cases o<;>first | (simp[At]at hsh;done) | skip
      case binOp op t x y f =>
        simp only[At]at hsh
        split at hsh<;>(injection hsh with hsh;injection hsh with h1 h2;cases h1)
      case load t a=>injection hsh with hsh;injection hsh with h1 h2;exact⟨_,h2.symm⟩
      case convert src dst x=>injection hsh with hsh;injection hsh with h1 h2;exact⟨_,h2.symm⟩
      case makeMap t r=>cases r with
        | some _=>cases hsh
        | none=>obtain⟨_,hsh⟩:=AA hsh;injection hsh with hsh;injection hsh with h1 h2;cases h1
      case lookup=>obtain⟨_,hsh⟩:=AA hsh;injection hsh with hsh;injection hsh with h1 h2;cases h1
      case mapUpdate=>obtain⟨_,hsh⟩:=AA hsh;injection hsh with hsh;injection hsh with h1 h2;cases h1
      case insert=>obtain⟨_,hsh⟩:=AA hsh;injection hsh with hsh;injection hsh with h1 h2;cases h1
      case makeFunc fn first captured=>cases fn<;>first | (cases hsh;done) | (injection hsh with hsh;injection hsh with h1 h2;cases h1)
      case call c =>
        obtain⟨callee,args,argTypes⟩:=c
        simp only[At]at hsh
        split at hsh<;>first | (cases hsh;done) | (split at hsh<;>(cases hsh;done);done) | skip
        split at hsh<;>first | (cases hsh;done) | skip
        all_goals first | (split at hsh<;>cases hsh;done) | (split at hsh<;>first | (cases hsh;done) | (obtain⟨_,hsh⟩:=AA hsh;cases hsh;done))
    obtain⟨x,hx⟩:=this
    obtain⟨a,rfl⟩:=one x hx
    exact QS h
  | r f=>exact Li h
  | _=>cases hr
section
variable{P:Program}{ρ ρ1 ρ2:A4}{s s1 s2:AE}{w w1 w2:World}{R:Bp}{a:Act}{ops:Array Oper}{rnd:Option Nat}{Q:Exit→Act→World→Prop}
theorem Kl{F:Cv}(h:Av P ρ s w)(hf:ρ s.next=none){nt i:Nat}{o:Oper}{sh:Sh}{want:Bool}{aS:List AV}{v:AV}{R1:Bp}{K:Act→World→Prop}(ho:ops[i]? = some o)
  (hs:JQ P F ops nt R s o sh want aS v R1 s1) (hne:sh.isEff=false) (hr:D5 ρ R a.tmps) (hnt:nt≤a.tmps.size)
  (hk:∀v' w' ρ',AL ρ' v v'→Av P ρ' s1 w'→Fr ρ s w ρ' s1 w'→K (a.put o.dst v') w'):wpOpIn (HN rnd) 0 P ops Q i K a w:=by
 unfold wpOpIn
 rw[ho]
 simp only
 obtain⟨xs,hsh,has⟩:=hs.shape
 rw[Ls hr hs.wants]
 cases want with
 | true =>
  simp only[if_true]
  refine⟨fun _ _=>trivial,?_⟩
  rw[Oper.semAt_eq _ _ _ (LV hsh)]
  have hl:IM sh aS s=some (v,s1):=by
   have:=hs.yes rfl
   cases sh<;>first | exact this | cases hne
  exact LU (cJ h hf (fun _=>rfl) hsh (II hr has) hl).next hk
 | false =>
  simp only[Bool.false_eq_true,if_false]
  refine⟨fun _ _=>trivial,?_⟩
  obtain⟨rfl,rfl⟩:=hs.no rfl
  exact hk undef w ρ (Cq ρ) h (Fr.refl _ _ _)
theorem aq{o:Op}{f:List AV→Option (AX×Made)}{xs:List Operand}{aS:List AV}{ob:AX}{m:Made}(hsh:At P o=some (.mk f,xs))(h:f aS=some (ob,m)):Dc ob=none:=by
 cases o<;>first | (simp[At]at hsh;done) | skip
 case binOp op t x y f =>
  simp only[At]at hsh
  split at hsh<;>(injection hsh with hsh;injection hsh with h1 h2;cases h1)
 case alloc e =>
  injection hsh with hsh;injection hsh with h1 h2;injection h1 with h1;subst h1
  simp only at h
  split at h<;>first | (cases h;done) | skip
  simp only[Ar,ft]at h
  obtain⟨z,_,h⟩:=h
  injection h with h;injection h with h h';subst h;rfl
 case box e x =>
  injection hsh with hsh;injection hsh with h1 h2;injection h1 with h1;subst h1
  simp only at h
  split at h<;>first | (cases h;done) | skip
  injection h with h;injection h with h h';subst h;rfl
 case buildSlice t len ps =>
  injection hsh with hsh;injection hsh with h1 h2;injection h1 with h1;subst h1
  simp only[ft]at h
  obtain⟨r,hr,h⟩:=h
  injection h with h;injection h with h h';subst h
  unfold Ak at hr
  split at hr<;>first | (cases hr;done) | skip
  simp only[ft]at hr
  obtain⟨n,_,hr⟩:=hr
  obtain⟨_,hr⟩:=AA hr
  simp only[ft]at hr
  obtain⟨z,_,hr⟩:=hr
  obtain⟨_,hr⟩:=AA hr
  simp only[ft]at hr
  obtain⟨l,_,hr⟩:=hr
  injection hr with hr;subst hr;rfl
 case makeMap t r =>
  cases r with
  | some _=>cases hsh
  | none =>
   obtain⟨_,hsh⟩:=AA hsh
   injection hsh with hsh;injection hsh with h1 h2;injection h1 with h1;subst h1
   simp only at h
   split at h<;>first | (cases h;done) | skip
   simp only[ft]at h
   obtain⟨kt,_,h⟩:=h
   injection h with h;injection h with h h';subst h;rfl
 case makeSlice t l c =>
  injection hsh with hsh;injection hsh with h1 h2;injection h1 with h1;subst h1
  unfold Xx at h
  split at h<;>first | (cases h;done) | skip
  unfold Bv at h
  split at h<;>first | (cases h;done) | skip
  simp only[ft]at h
  obtain⟨by_,_,n,_,h⟩:=h
  obtain⟨_,h⟩:=AA h
  simp only[ft]at h
  obtain⟨z,_,h⟩:=h
  obtain⟨_,h⟩:=AA h
  injection h with h;injection h with h h';subst h;rfl
 case makeFunc fn first captured=>cases fn<;>first | (cases hsh;done) | (injection hsh with hsh;injection hsh with h1 h2;cases h1)
 case call c =>
  obtain⟨callee,args,argTypes⟩:=c
  simp only[At]at hsh
  split at hsh<;>first | (cases hsh;done) | (split at hsh<;>(cases hsh;done);done) | skip
  split at hsh<;>first | (cases hsh;done) | (split at hsh<;>first | (cases hsh;done) | (obtain⟨_,hsh⟩:=AA hsh;cases hsh;done))
 all_goals first | (cases hsh;done) | (obtain⟨_,hsh⟩:=AA hsh;cases hsh;done)
theorem Av.same(h:Av P ρ s w)(e:∀i rb,ρ i=some rb→s1.heap.get i=s.heap.get i)(hu:∀i o g,s1.heap.get i=some o→Dc o=some g→∃rb,ρ i=some rb):Av P ρ s1 w:=
  ⟨fun i o rb hi hr=>h.obj i o rb (by rw[← e i rb hr];exact hi) hr,h.lt,
   fun i j oi oj ri rj hne hi hj hri hrj=>h.sep i j oi oj ri rj hne (by rw[← e i ri hri];exact hi) (by rw[← e j rj hrj];exact hj) hri hrj,hu⟩
theorem Dh.same{b:Nat}(e:∀i rb,ρ i=some rb→s1.heap.get i=s.heap.get i)(h:Dh ρ s1 b):Dh ρ s b:=by
 obtain⟨i,o,rb,h1,h2,h3,h4⟩:=h
 exact⟨i,o,rb,by rw[← e i rb h3];exact h1,h2,h3,h4⟩
end
def Dn(π:List Nat)(listed:Array Bool)(p:Nat):Prop:=∃i:Nat,π[p]? = some i∧listed[i]? = some true
def Sh.isMk:Sh→Bool
 | .mk _=>true
 | _=>false
theorem QF{P:Program}{ops:Array Oper}{b:Array Nat}{π:List Nat}(h:EH P ops b [] π=true):∀p i j:Nat,π[p]? = some i→j<ops.size→(b.getD i 0).testBit j=true→∃q:Nat,q<p∧π[q]? = some j:=by
 intro p i j hp hj ht
 have:=(KT h).2 p i hp
 unfold NC at this
 simp only[Bool.and_eq_true,List.all_eq_true,Bool.or_eq_true,Bool.not_eq_true']at this
 have:=this.1.1.1.1.2 j (List.mem_range.2 hj)
 rcases this with h' | h'
 ·rw[ht]at h';cases h'
 ·simpa using En.1 (List.contains_iff_mem.1 h')
theorem PT.regs_at {P : Program} {F : Cv}  {ops : Array Oper} {nt : Nat} {b : Array Nat} {π : List Nat} {D : K8}    (ht : PT P F ops nt b π D) : ∀ p, p ≤ π.length → ∀ t x, D.R p t = some x →
    (∃q,q<p∧(D.o q).dst=some t∧x=D.v q)∨((∀q,q<p→(D.o q).dst≠some t)∧D.R 0 t=some x):=by
  intro p
  induction p with
  | zero=>intro _ t x h;exact .inr ⟨fun q hq=>by omega,h⟩
  | succ p ih =>
    intro hp t x h
    rw[(ht.step p (by omega)).put]at h
    have old:D.R p t=some x→(D.o p).dst≠some t→(∃q,q<p+1∧(D.o q).dst=some t∧x=D.v q)∨((∀q,q<p+1→(D.o q).dst≠some t)∧D.R 0 t=some x):=by
      intro h hne
      rcases ih (by omega) t x h with⟨q,h1,h2,h3⟩ | ⟨h1,h2⟩
      · exact .inl ⟨q,by omega,h2,h3⟩
      · refine .inr ⟨fun q hq => ?_, h2⟩
        rcases fv q p with h' | h'
        · exact h1 q h'
        · have:q=p:=by omega
          subst this;exact hne
    cases hd:(D.o p).dst with
    | none=>rw[hd]at h;exact old h (by rw[hd];simp)
    | some d =>
      rw[hd]at h
      by_cases e:t=d
      · subst e
        simp only[Bp.put,if_true,Option.some.injEq]at h
        exact .inl ⟨p,by omega,hd,h.symm⟩
      · simp only[Bp.put,if_neg e]at h
        exact old h (by rw[hd];intro e';injection e' with e';exact e e'.symm)
theorem He{R R':Bp}:∀ {xs:List Operand},(∀t,Operand.tmp t∈xs→R' t=R t)→DI R' xs=DI R xs
 | [],_=>rfl
 | x::l,h=>by
  have h1:OM R' x=OM R x:=by
   cases x with
   | tmp t=>exact h t gC
   | _=>rfl
  simp only[DI,h1,He fun t ht=>h t (gG _ ht)]
structure DJ(P:Program)(ops:Array Oper)(b:Array Nat)(π:List Nat)(D:K8)(ρ0:A4)(w0:World)(a0:Act)(listed:Array Bool)(k:Nat)(ρ:A4)(a:Act)(w:World):Prop where
 lsz:listed.size=ops.size
 kle:k≤π.length
 dlt:∀p,Dn π listed p→p<k
 eff:∀p,p<k→(D.sh p).isEff=true→Dn π listed p
 anc:∀p i:Nat,π[p]? = some i→Dn π listed p→∀j:Nat,j<ops.size→(b.getD i 0).testBit j=true→listed[j]? = some true
 inv:Av P ρ (D.st k) w
 fresh:Ag ρ (D.st k)
 fr:Fr ρ0 (D.st 0) w0 ρ (D.st k) w
 unb:∀p,p<k→¬ Dn π listed p→D.want p=true→∀f,D.sh p=.mk f→∃ob m,f (D.aS p)=some (ob,m)∧D.v p=m.val (D.st p).next∧ρ (D.st p).next=none ∧
  (D.st k).heap.get (D.st p).next=some ob∧(D.st 0).next≤(D.st p).next∧(D.st p).next<(D.st k).next
 dis:∀p q,p<q→q<k→¬ Dn π listed p→¬ Dn π listed q→D.want p=true→D.want q=true→(D.sh p).isMk=true→(D.sh q).isMk=true→(D.st p).next≠(D.st q).next
 rds:∀q,q<k→¬ Dn π listed q→D.want q=true→(D.sh q).isRead=true→Dl (D.sh q) (D.aS q) (D.st k)=some (D.v q)
 sz:a.tmps.size=a0.tmps.size
 dfr:a.defers=a0.defers
 rw:∀p,Dn π listed p→∀d,(D.o p).dst=some d→AL ρ (D.v p) (a.tmps.getD d undef)
 ri:∀t,(∀p,Dn π listed p→(D.o p).dst≠some t)→∀x,D.R 0 t=some x→AL ρ x (a.tmps.getD t undef)
section
variable{P:Program}{F:Cv}{ops:Array Oper}{nt:Nat}{b:Array Nat}{π:List Nat}{D:K8}{ρ0 ρ ρ1:A4}{w0 w w1:World}{a0 a:Act}{listed:Array Bool}{k:Nat}{rnd:Option Nat}{Q:Exit→Act→World→Prop}
theorem DJ.adv1 (ht : PT P F ops nt b π D) (J : DJ P ops b π D ρ0 w0 a0 listed k ρ a w) (hk : k < π.length) (hne : (D.sh k).isEff = false) : DJ P ops b π D ρ0 w0 a0 listed (k + 1) ρ a w := by
  have hs:=ht.step k hk
  obtain⟨xs,hsh,has⟩:=hs.shape
  have lt1:∀p,Dn π listed p→p<k+1:=fun p h=>iK (J.dlt p h)
  have eff1:∀p,p<k+1→(D.sh p).isEff=true→Dn π listed p:=by
    intro p hp he
    rcases fv p k with h' | h'
    · exact J.eff p h' he
    · have:p=k:=by omega
      subst this;rw[he]at hne;cases hne
  have key:(D.st (k+1)=D.st k∧((D.sh k).isMk=true→D.want k=false)∧((D.sh k).isRead=true→D.want k=true→Dl (D.sh k) (D.aS k) (D.st k)=some (D.v k))) ∨
      ∃f ob m,D.sh k=.mk f∧D.want k=true∧f (D.aS k)=some (ob,m)∧D.v k=m.val (D.st k).next∧D.st (k+1)=newObj (D.st k) ob:=by
    cases hw:D.want k with
    | false =>
      obtain⟨_,h2⟩:=hs.no hw
      exact .inl ⟨h2,fun _=>rfl,fun _ e=>by cases e⟩
    | true =>
      have hy:=hs.yes hw
      cases he:D.sh k with
      | p1 f =>
        rw[he]at hy
        have hy:IM (.p1 f) (D.aS k) (D.st k)=some (D.v k,D.st (k+1)):=hy
        refine .inl ⟨?_,fun e=>(by cases e),fun e=>(by cases e)⟩
        simp only[IM]at hy
        split at hy<;>first | (cases hy;done) | exact(Bw hy).2
      | p2 f =>
        rw[he]at hy
        have hy:IM (.p2 f) (D.aS k) (D.st k)=some (D.v k,D.st (k+1)):=hy
        refine .inl ⟨?_,fun e=>(by cases e),fun e=>(by cases e)⟩
        simp only[IM]at hy
        split at hy<;>first | (cases hy;done) | exact(Bw hy).2
      | p f=>rw[he]at hy;exact .inl ⟨(Kh (show IM (.p f) _ _=_ from hy)).2,fun e=>(by cases e),fun e=>(by cases e)⟩
      | r1 f =>
        rw[he]at hy hsh
        have:=In hsh has rfl (show IM (.r1 f) _ _=_ from hy)
        exact .inl ⟨this.2,fun e=>(by cases e),fun _ _=>this.1⟩
      | r f =>
        rw[he]at hy hsh
        have:=In hsh has rfl (show IM (.r f) _ _=_ from hy)
        exact .inl ⟨this.2,fun e=>(by cases e),fun _ _=>this.1⟩
      | mk f =>
        rw[he]at hy
        obtain⟨ob,m,h1,h2,h3⟩:=IN (show IM (.mk f) _ _=_ from hy)
        exact .inr ⟨f,ob,m,rfl,rfl,h1,h2,h3⟩
      | e f=>rw[he]at hne;cases hne
      | call f=>rw[he]at hne;cases hne
      | callv=>rw[he]at hne;cases hne
  have ndk:¬ Dn π listed k:=fun h=>absurd (J.dlt k h) (Nat.lt_irrefl k)
  have split1:∀p,p<k+1→p<k∨p=k:=fun p h=>by omega
  rcases key with⟨e,hm,hrd⟩ | ⟨f,ob,m,he,hw,h1,h2,e⟩
  · refine ⟨J.lsz, hk, lt1, eff1, J.anc, by rw [e]; exact J.inv, by rw [e]; exact J.fresh, by rw [e]; exact J.fr, ?_, ?_, ?_, J.sz, J.dfr, J.rw, J.ri⟩
    · intro p hp hd hw f hf
      rcases split1 p hp with h' | rfl
      · rw[e];exact J.unb p h' hd hw f hf
      · rw[hm (by rw[hf];rfl)]at hw;cases hw
    · intro p q hpq hq d1 d2 w1 w2 m1 m2
      rcases split1 q hq with h' | rfl
      · exact J.dis p q hpq h' d1 d2 w1 w2 m1 m2
      · rw[hm m2]at w2;cases w2
    · intro q hq hd hw hr
      rw[e]
      rcases split1 q hq with h' | rfl
      · exact J.rds q h' hd hw hr
      · exact hrd hr hw
  · have hfr := J.fresh (D.st k).next (fu          _)
    have hg:∀i,i≠(D.st k).next→(newObj (D.st k) ob).heap.get i=(D.st k).heap.get i:=fun i hi=>by rw[Ah,if_neg hi]
    have hsame:∀i rb,ρ i=some rb→(newObj (D.st k) ob).heap.get i=(D.st k).heap.get i:=fun i rb hi=>hg i (fun q=>by subst q;rw[hfr.1]at hi;cases hi)
    refine⟨J.lsz,hk,lt1,eff1,J.anc,?_,?_,?_,?_,?_,?_,J.sz,J.dfr,J.rw,J.ri⟩
    · rw [e]
      refine J.inv.same hsame fun i o g hi hgo=>?_
      by_cases ei:i=(D.st k).next
      · subst ei
        rw[Ah,if_pos rfl]at hi
        injection hi with hi
        subst hi
        obtain⟨xs,hsh,_⟩:=(ht.step k hk).shape
        rw[he]at hsh
        rw[aq hsh h1]at hgo
        cases hgo
      · rw[hg i ei]at hi
        exact J.inv.glb i o g hi hgo
    · rw[e]
      intro i hi
      have hi:(D.st k).next+1≤i:=hi
      have:=J.fresh i (by omega)
      exact⟨this.1,by rw[hg i (by omega)];exact this.2⟩
    · rw [e]
      refine⟨J.fr.le,fun i hi h'=>J.fr.fresh i hi (h'.imp id fun(h'':(D.st k).next+1≤i)=>by omega),Nat.le_succ_of_le J.fr.next,J.fr.size,J.fr.os,J.fr.tape,J.fr.output,J.fr.keep,fun bb hb=>J.fr.own bb (hb.same hsame),?_,J.fr.blk,fun i oi rb hi h0=>(by
        by_cases ei:i=(D.st k).next
        · subst ei;have h1:=J.fr.le _ _ h0;rw[(J.fresh _ (fu _)).1]at h1;cases h1
        · rw[hg i ei]at hi;exact J.fr.dom i oi rb hi h0)⟩
      intro i hi h'
      have hn:i≠(D.st k).next:=by
        have:=J.fr.next
        rcases h' with h' | h'
        · omega
        · have h':(D.st k).next+1≤i:=h'
          omega
      rw[hg i hn]
      exact J.fr.unborn i hi (h'.imp id fun(h'':(D.st k).next+1≤i)=>by omega)
    · intro p hp hd hw' f' hf
      rw[e]
      rcases split1 p hp with h' | rfl
      · obtain⟨ob',m',g1,g2,g3,g4,g5,g6⟩:=J.unb p h' hd hw' f' hf
        exact⟨ob',m',g1,g2,g3,by rw[hg _ (by omega)];exact g4,g5,iK g6⟩
      · rw[he]at hf
        injection hf with hf
        subst hf
        exact⟨ob,m,h1,h2,hfr.1,by rw[Ah,if_pos rfl],J.fr.next,gY _⟩
    · intro p q hpq hq d1 d2 w1 w2 m1 m2
      rcases split1 q hq with h' | rfl
      · exact J.dis p q hpq h' d1 d2 w1 w2 m1 m2
      · cases hsp:D.sh p with
        | mk fp=>obtain⟨_,_,_,_,_,_,_,g6⟩:=J.unb p hpq d1 w1 fp hsp;omega
        | _=>rw[hsp]at m1;cases m1
    · intro q hq hd hw' hr
      rw[e]
      rcases split1 q hq with h' | rfl
      · obtain⟨xq,hq1,_⟩:=(ht.step q (by omega)).shape
        exact TY (AE.sub_new hfr.2 ob) hq1 (J.rds q h' hd hw' hr)
      · rw[he]at hr;cases hr
theorem DJ.adv(ht:PT P F ops nt b π D):∀ (n k:Nat),n=π.length - k→DJ P ops b π D ρ0 w0 a0 listed k ρ a w→∃k',DJ P ops b π D ρ0 w0 a0 listed k' ρ a w∧(k'=π.length∨(D.sh k').isEff=true):=by
 intro n
 induction n with
 | zero=>intro k hn J;exact⟨k,J,.inl (by have:=J.kle;omega)⟩
 | succ n ih =>
  intro k hn J
  cases he:(D.sh k).isEff with
  | true=>exact⟨k,J,.inr he⟩
  | false=>exact ih (k+1) (by omega) (J.adv1 ht (by omega) he)
theorem cg(hp:Hu P ops b π){p i q:Nat}(hi:π[p]? = some i)(hl:listed.size=ops.size):Dn π (listed.setIfInBounds i true) q↔Dn π listed q∨q=p:=by
  have hlt:=hp.lt p i hi
  constructor
  · rintro⟨j,h1,h2⟩
    by_cases e:j=i
    · subst e;exact .inr (hp.inj q p j h1 hi)
    · rw[Array.getElem?_setIfInBounds_ne (Ne.symm e)]at h2
      exact .inl ⟨j,h1,h2⟩
  · rintro (⟨j, h1, h2⟩ | rfl)
    · refine⟨j,h1,?_⟩
      by_cases e:j=i
      · subst e;simp[hl,hlt]
      · rw[Array.getElem?_setIfInBounds_ne (Ne.symm e)];exact h2
    · exact⟨i,hi,by simp[hl,hlt]⟩
theorem Lb{a:Act}{d' d:Tmp}{v:Value}(h:d'≠d):(a.put (some d') v).tmps.getD d undef=a.tmps.getD d undef:=by
 simp[Act.put,Array.getD_eq_getD_getElem?,Array.getElem?_setIfInBounds_ne h]
theorem DJ.put (ht : PT P F ops nt b π D) (hp : Hu     P ops b π) (hnt : nt ≤ a0.tmps.size) (J : DJ P ops b π D ρ0 w0 a0 listed k ρ a w) {p i k' : Nat} (hi : π[p]? = some i) (hnd : ¬ Dn π listed p) (hpk : p < k') (hkk : k ≤ k') (hk'' : ∀ q, q < k' → q = p ∨ q < k) (hkn : k' ≤ π.length)
    (hanc:∀j:Nat,j<ops.size→(b.getD i 0).testBit j=true→listed[j]? = some true) {v':Value} (hv:AL ρ1 (D.v p) v') (le:ρ.le ρ1)
    (inv:Av P ρ1 (D.st k') w1) (fresh:Ag ρ1 (D.st k')) (fr:Fr ρ0 (D.st 0) w0 ρ1 (D.st k') w1)
    (unb:∀q,q<k→q≠p→¬ Dn π listed q→D.want q=true→∀f,D.sh q=.mk f→ρ1 (D.st q).next=none∧(D.st k').heap.get (D.st q).next=(D.st k).heap.get (D.st q).next∧(D.st q).next<(D.st k').next)
    (rds:∀q,q<k→q≠p→¬ Dn π listed q→D.want q=true→(D.sh q).isRead=true→Dl (D.sh q) (D.aS q) (D.st k')=some (D.v q)):
    DJ P ops b π D ρ0 w0 a0 (listed.setIfInBounds i true) k' ρ1 (a.put (D.o p).dst v') w1:=by
  have hlt:=hp.lt p i hi
  have hpl:p<π.length:=by omega
  have dn:=fun q=>cg (listed:=listed) (q:=q) hp hi J.lsz
  have up:∀j:Nat,listed[j]? = some true→(listed.setIfInBounds i true)[j]? = some true:=by
    intro j h
    by_cases e:j=i
    · subst e;simp[J.lsz,hlt]
    · rw[Array.getElem?_setIfInBounds_ne (Ne.symm e)];exact h
  have uniq:∀q r d,q<r→r<π.length→(D.o q).dst=some d→(D.o r).dst=some d→False:=by
    intro q r d hqr hr h1 h2
    have hr':=f9 hr
    have hq':=f9 (show q<π.length by omega)
    exact(hp.wdst r q _ _ _ _ d hr' hq' hqr (ht.op r _ hr') (ht.op q _ hq') h2).1 h1
  have nd:∀q,¬ Dn π (listed.setIfInBounds i true) q→¬ Dn π listed q∧q≠p:=fun q h=>⟨fun h'=>h ((dn q).2 (.inl h')),fun h'=>h ((dn q).2 (.inr h'))⟩
  refine⟨by simp[J.lsz],hkn,?_,?_,?_,inv,fresh,fr,?_,?_,?_,by rw[BD];exact J.sz,by rw[Bl];exact J.dfr,?_,?_⟩
  · intro q hq
    rcases(dn q).1 hq with h' | rfl
    · exact fy (J.dlt q h') hkk
    · exact hpk
  · intro q hq he
    rcases hk'' q hq with rfl | h'
    · exact(dn q).2 (.inr rfl)
    · exact(dn q).2 (.inl (J.eff q h' he))
  · intro q j hj hq l hl hb
    rcases(dn q).1 hq with h' | rfl
    · exact up l (J.anc q j hj h' l hl hb)
    · rw[hi]at hj
      injection hj with hj
      subst hj
      exact up l (hanc l hl hb)
  · intro q hq hd hw f hf
    obtain⟨d1,d2⟩:=nd q hd
    have hqk:=(hk'' q hq).resolve_left d2
    obtain⟨ob,m,g1,g2,g3,g4,g5,g6⟩:=J.unb q hqk d1 hw f hf
    obtain⟨u1,u2,u3⟩:=unb q hqk d2 d1 hw f hf
    exact⟨ob,m,g1,g2,u1,by rw[u2];exact g4,g5,u3⟩
  · intro q r hqr hr d1 d2 w1 w2 m1 m2
    obtain⟨d1,e1⟩:=nd q d1
    obtain⟨d2,e2⟩:=nd r d2
    exact J.dis q r hqr ((hk'' r hr).resolve_left e2) d1 d2 w1 w2 m1 m2
  · intro q hq hd hw hr
    obtain⟨d1,d2⟩:=nd q hd
    exact rds q ((hk'' q hq).resolve_left d2) d2 d1 hw hr
  · intro q hq d hd
    rcases(dn q).1 hq with h' | rfl
    · have hqn : q < π.length := fy                 (J.dlt q h') J.kle
      have hne:(D.o p).dst≠some d:=by
        intro e
        rcases iL q p with h'' | h'' | h''
        · exact uniq q p d h'' hpl hd e
        · subst h'';exact hnd h'
        · exact uniq p q d h'' hqn e hd
      have:=(J.rw q h' d hd).mono le
      cases hdp:(D.o p).dst with
      | none=>exact this
      | some d' =>
        rw[Lb fun e=>hne (by rw[hdp,e])]
        exact this
    · have hd':d<a.tmps.size:=by
        rw[J.sz];exact fy ((ht.step q hpl).lt d hd) hnt
      rw[hd]
      simpa[Act.put,Array.getD_eq_getD_getElem?,hd']using hv
  · intro t hq x hx
    have hne:(D.o p).dst≠some t:=hq p ((dn p).2 (.inr rfl))
    have:=(J.ri t (fun q h'=>hq q ((dn q).2 (.inl h'))) x hx).mono le
    cases hdp:(D.o p).dst with
    | none=>exact this
    | some d' =>
      rw[Lb fun e=>hne (by rw[hdp,e])]
      exact this
end
section
variable{P:Program}{F:Cv}{ops:Array Oper}{nt:Nat}{b:Array Nat}{π:List Nat}{D:K8}{ρ0 ρ ρ1:A4}{w0 w w1:World}{a0 a:Act}{listed:Array Bool}{k:Nat}{rnd:Option Nat}{Q:Exit→Act→World→Prop}
theorem DJ.ahead(hp:Hu P ops (Region.before ops) π)(J:DJ P ops (Region.before ops) π D ρ0 w0 a0 listed k ρ a w){p i:Nat}(hi:π[p]? = some i){o:Oper}(ho:ops[i]? = some o)
  (hr:∀e∈o.after,Region.binds .any e=true→listed.getD e.on false=true):∀j:Nat,j<ops.size→((Region.before ops).getD i 0).testBit j=true→listed[j]? = some true:=by
 intro j hj ht
 have lst:∀x:Nat,listed.getD x false=true→listed[x]? = some true:=by
  intro x hx
  rw[Array.getD_eq_getD_getElem?]at hx
  cases h:listed[x]? with
  | none=>rw[h]at hx;cases hx
  | some v=>rw[h]at hx;simp at hx;rw[hx]
 obtain⟨o',ho',e,he,hb,h'⟩:=NV ops i j ht
 rw[ho]at ho'
 injection ho' with ho'
 subst ho'
 have hl:=lst _ (hr e he hb)
 rcases h' with rfl | h'
 ·exact hl
 ·obtain⟨q,_,hq⟩:=hp.edge p i o hi ho e he hb
  exact J.anc q e.on hq ⟨e.on,hq,hl⟩ j hj h'
def N4(P:Program)(ops:Array Oper)(o:Oper)(t:Tmp):Prop:=t∈FM P o∨∃ (j:Nat)(want:Bool)(u:Oper),o.guard=some (j,want)∧ops[j]? = some u∧u.dst=some t
open Classical in
def Iu (P:Program) (ops:Array Oper) (o:Oper) (R:Bp):Bp:=fun t=>if N4 P ops o t then R t else none
theorem On{o:Oper}{R:Bp}{t:Tmp}(h:N4 P ops o t):Iu P ops o R t=R t:=by unfold Iu;rw[if_pos h]
theorem Q2{o:Oper}{R:Bp}:Hq ops (Iu P ops o R) o=Hq ops R o:=by
 unfold Hq
 cases hg:o.guard with
 | none=>rfl
 | some g =>
  obtain⟨j,want⟩:=g
  simp only
  cases hj:ops[j]? with
  | none=>rfl
  | some u =>
   cases hd:u.dst with
   | none=>simp[hd]
   | some d=>simp only[Option.bind_some,hd];rw[On (.inr ⟨j,want,u,hg,hj,hd⟩)]
theorem DJ.view (ht : PT P F ops nt (Region.before ops) π D) (hpl : EH     P ops (Region.before ops) [] π = true) (hr0 : D5   ρ0 (D.R 0) a0.tmps) (hnt : nt ≤ a0.tmps.size)
    (J:DJ P ops (Region.before ops) π D ρ0 w0 a0 listed k ρ a w) {p i:Nat} (hi:π[p]? = some i) (hnd:¬ Dn π listed p)
    (hanc:∀j:Nat,j<ops.size→((Region.before ops).getD i 0).testBit j=true→listed[j]? = some true):D5 ρ (Iu P ops (D.o p) (D.R p)) a.tmps:=by
  have hp:=IG hpl
  have hlt:=hp.lt p i hi
  have hpn:p<π.length:=by
    rcases fv p π.length with h' | h'
    · exact h'
    · rw[gH h']at hi;cases hi
  have hoi:=ht.op p i hi
  have place:∀ (q:Nat) (h:q<π.length),π[q]? = some π[q]:=fun q hq=>f9 hq
  have uniq:∀q r d,q<π.length→r<π.length→(D.o q).dst=some d→(D.o r).dst=some d→q=r:=by
    have one:∀q r d,q<r→r<π.length→(D.o q).dst=some d→(D.o r).dst=some d→False:=by
      intro q r d hqr hr h1 h2
      exact(hp.wdst r q _ _ _ _ d (place r hr) (place q (by omega)) hqr (ht.op r _ (place r hr)) (ht.op q _ (place q (by omega))) h2).1 h1
    intro q r d hq hr h1 h2
    rcases iL q r with h' | h' | h'
    · exact(one q r d h' hr h1 h2).elim
    · exact h'
    · exact(one r q d h' hq h2 h1).elim
  intro t x hx
  unfold Iu at hx
  split at hx
  · rename_i hn
    have gd:∀ (j:Nat) (want:Bool) (u:Oper),(D.o p).guard=some (j,want)→ops[j]? = some u→u.dst=some t→∃q,q<p∧Dn π listed q∧(D.o q).dst=some t:=by
      intro j want u h1 h2 h3
      have hj:j<ops.size:=by
        rcases fv j ops.size with h' | h'
        · exact h'
        · rw[Array.getElem?_eq_none h']at h2;cases h2
      have hb:=hp.guard p i (D.o p) j want hi hoi h1
      obtain⟨q,hqp,hq⟩:=QF hpl p i j hi hj hb
      refine⟨q,hqp,⟨j,hq,hanc j hj hb⟩,?_⟩
      have:=ht.op q j hq
      rw[h2]at this
      injection this with this
      rw[← this];exact h3
    have fin:∀ {y:AV},AL ρ y (a.tmps.getD t undef)→t<a0.tmps.size→t<a.tmps.size∧AL ρ y (a.tmps.getD t undef):=fun h1 h2=>⟨by rw[J.sz];exact h2,h1⟩
    rcases ht.regs_at p (Nat.le_of_lt hpn) t x hx with⟨q,hq,hd,rfl⟩ | ⟨hno,h0⟩
    · have hqn : q < π.length := by omega
      have dq:Dn π listed q:=by
        rcases hn with hn | ⟨j,want,u,h1,h2,h3⟩
        · have hb:=hp.rdst p q i _ _ _ t hi (place q hqn) hq hoi (ht.op q _ (place q hqn)) hd hn
          exact⟨π[q],place q hqn,hanc _ (hp.lt q _ (place q hqn)) hb⟩
        · obtain⟨r,hr1,hr2,hr3⟩:=gd j want u h1 h2 h3
          have:=uniq q r t hqn (by omega) hd hr3
          subst this;exact hr2
      exact fin (J.rw q dq t hd) (fy ((ht.step q hqn).lt t hd) hnt)
    · refine fin (J.ri t ?_ x h0) (hr0 t x h0).1
      intro q dq hd
      have hqn:q<π.length:=fy (J.dlt q dq) J.kle
      have hpq:p<q:=by
        rcases iL q p with h' | h' | h'
        · exact absurd hd (hno q h')
        · subst h';exact absurd dq hnd
        · exact h'
      rcases hn with hn | ⟨j,want,u,h1,h2,h3⟩
      · have hb:=(hp.wdst q p _ i _ _ t (place q hqn) hi hpq (ht.op q _ (place q hqn)) hoi hd).2 hn
        exact hnd ⟨i,hi,J.anc q _ (place q hqn) dq i hlt hb⟩
      · obtain⟨r,hr1,hr2,hr3⟩:=gd j want u h1 h2 h3
        exact absurd hr3 (hno r hr1)
  · cases hx
theorem MX{o:Oper}{sh:Sh}{xs:List Operand}(h:At P o.op=some (sh,xs)):Nk P o=sh.isEff:=by unfold Nk;rw[h]
theorem DJ.run (hF : ZP  P F) (ht : PT P F ops nt (Region.before ops) π D) (hpl : EH     P ops (Region.before ops) [] π = true) (hr0 : D5   ρ0 (D.R 0) a0.tmps) (hnt : nt ≤ a0.tmps.size)
    (J:DJ P ops (Region.before ops) π D ρ0 w0 a0 listed k ρ a w) (htop:k=π.length∨(D.sh k).isEff=true) {p i:Nat} (hi:π[p]? = some i) (hnd:¬ Dn π listed p)
    (hanc:∀j:Nat,j<ops.size→((Region.before ops).getD i 0).testBit j=true→listed[j]? = some true) {K:Act→World→Prop}
    (hK:∀k' ρ' a' w',DJ P ops (Region.before ops) π D ρ0 w0 a0 (listed.setIfInBounds i true) k' ρ' a' w'→K a' w'):wpOpIn (HN rnd) 0 P ops Q i K a w:=by
  have hp:=IG hpl
  have hpn:p<π.length:=by
    rcases fv p π.length with h' | h'
    · exact h'
    · rw[gH h']at hi;cases hi
  have place:∀ (q:Nat) (h:q<π.length),π[q]? = some π[q]:=fun q hq=>f9 hq
  have hoi:=ht.op p i hi
  have hs:=ht.step p hpn
  obtain⟨xs,hsh,has⟩:=hs.shape
  have hv:=J.view ht hpl hr0 hnt hi hnd hanc
  have hkp:p≤k:=by
    rcases fv k p with h' | h'
    · have hkn : k < π.length := by omega
      have he:(D.sh k).isEff=true:=htop.resolve_left (by omega)
      obtain⟨xk,hk1,_⟩:=(ht.step k hkn).shape
      have hb:=hp.eff p k i _ _ hi (place k hkn) h' (ht.op k _ (place k hkn)) (by rw[MX hk1];exact he)
      have:=J.dlt k ⟨π[k],place k hkn,hanc _ (hp.lt k _ (place k hkn)) hb⟩
      omega
    · exact h'
  have hno:p<k→(D.sh p).isEff=false:=fun h'=>by
    cases he:(D.sh p).isEff with
    | false=>rfl
    | true=>exact absurd (J.eff p h' he) hnd
  have hnt':nt≤a.tmps.size:=by rw[J.sz];exact hnt
  have has':DI (Iu P ops (D.o p) (D.R p)) xs=some (D.aS p):=by
    rw[He fun t htx=>On (.inl (TQ hsh htx))];exact has
  have sok:∀ {s s1:AE},(D.want p=true→ZN F (D.sh p) (D.aS p) s=some (D.v p,s1))→(D.want p=false→s1=s) →
      JQ P F ops nt (Iu P ops (D.o p) (D.R p)) s (D.o p) (D.sh p) (D.want p) (D.aS p) (D.v p) ((Iu P ops (D.o p) (D.R p)).put (D.o p).dst (D.v p)) s1:=fun h1 h2 =>
    ⟨⟨xs,hsh,has'⟩,by rw[Q2];exact hs.wants,rfl,hs.lt,h1,fun hw=>⟨(hs.no hw).1,h2 hw⟩⟩
  rcases fv p k with hlt | hge
  ·
    have hne:=hno hlt
    have same:∀ {v':Value} {w':World} {ρ':A4},AL ρ' (D.v p) v'→Av P ρ' (D.st k) w'→Fr ρ (D.st k) w ρ' (D.st k) w'→K (a.put (D.o p).dst v') w':=by
      intro v' w' ρ' h1 h2 h3
      refine hK k ρ' _ w' (J.put ht hp hnt hi hnd hlt (fu k) (fun q hq=>.inr hq) J.kle hanc h1 h3.le h2 (J.fresh.step h3) (J.fr.trans h3) ?_ ?_)
      · intro q hq _ hd hw f hf
        obtain⟨ob,m,g1,g2,g3,g4,g5,g6⟩:=J.unb q hq hd hw f hf
        exact⟨h3.fresh _ g3 (.inl g6),rfl,g6⟩
      · intro q hq _ hd hw hr
        exact J.rds q hq hd hw hr
    have quiet:(D.want p=true→ZN F (D.sh p) (D.aS p) (D.st k)=some (D.v p,D.st k))→wpOpIn (HN rnd) 0 P ops Q i K a w:=fun hy =>
      Kl J.inv (J.fresh _ (fu _)).1 hoi (sok hy fun _=>rfl) hne hv hnt' fun v' w' ρ' h1 h2 h3=>same h1 h2 h3
    cases hw:D.want p with
    | false=>exact quiet (fun e=>by rw[hw]at e;cases e)
    | true =>
      have hy:=hs.yes hw
      cases he:D.sh p with
      | p1 f =>
        refine quiet fun _=>?_
        rw[he]at hy ⊢
        simp only[ZN,IM]at hy ⊢
        split at hy<;>first | (cases hy;done) | (rw[(Bw hy).1];rfl)
      | p2 f =>
        refine quiet fun _=>?_
        rw[he]at hy ⊢
        simp only[ZN,IM]at hy ⊢
        split at hy<;>first | (cases hy;done) | (rw[(Bw hy).1];rfl)
      | p f =>
        refine quiet fun _=>?_
        rw[he]at hy ⊢
        simp only[ZN,IM]at hy ⊢
        rw[(Bw hy).1];rfl
      | r1 f =>
        refine quiet fun _=>?_
        have:=Iq (J.rds p hlt hnd hw (by rw[he];rfl))
        rw[he]at this ⊢
        exact this
      | r f =>
        refine quiet fun _=>?_
        have:=Iq (J.rds p hlt hnd hw (by rw[he];rfl))
        rw[he]at this ⊢
        exact this
      | mk f =>
        obtain⟨ob,m,g1,g2,g3,g4,g5,g6⟩:=J.unb p hlt hnd hw f he
        let s':AE:={ next:=(D.st p).next,heap:=(D.st k).heap }
        have hinv:Av P ρ s' w:=J.inv.same (fun _ _ _=>rfl) J.inv.glb
        have hsame:∀x,(newObj s' ob).heap.get x=(D.st k).heap.get x:=by
          intro x
          rw[Ah]
          by_cases e:x=s'.next
          · rw[if_pos e,e];exact g4.symm
          · rw[if_neg e]
        refine Kl hinv g3 hoi (sok (s1:=newObj s' ob) (fun _=>?_) (fun e=>by rw[hw]at e;cases e)) hne hv hnt' ?_
        · rw[he]
          simp only[ZN,IM,g1,N1,g2]
          rfl
        · intro v' w' ρ' h1 h2 h3
          have h2':Av P ρ' (D.st k) w':=h2.same (fun x _ _=>(hsame x).symm) fun i o g hi hgo=>let ⟨r,hr⟩:=J.inv.glb i o g hi hgo;⟨r,h3.le _ _ hr⟩
          have hid:(D.st p).next+1≤(D.st k).next:=g6
          refine hK k ρ' _ w' (J.put ht hp hnt hi hnd hlt (fu k) (fun q hq=>.inr hq) J.kle hanc h1 h3.le h2' ?_ ?_ ?_ ?_)
          · intro x hx
            have:=J.fresh x hx
            exact⟨h3.fresh x this.1 (.inr (show(D.st p).next+1≤x by omega)),this.2⟩
          · refine ⟨A4.le_trans  J.fr.le h3.le, ?_, J.fr.next, fx           J.fr.size h3.size, h3.os.trans J.fr.os, h3.tape.trans J.fr.tape, h3.output.trans J.fr.output, ?_, ?_, J.fr.unborn, fun x rb hx h0 => ?_, J.fr.dom⟩
            · intro x hx h'
              refine h3.fresh x (J.fr.fresh x hx h') ?_
              rcases h' with h' | h'
              · exact .inl (show x<(D.st p).next by omega)
              · exact .inr (show(D.st p).next+1≤x by omega)
            · intro bb hb ho
              have hb':bb<w.heap.size:=fy hb J.fr.size
              refine(h3.keep bb hb' ?_).trans (J.fr.keep bb hb ho)
              intro ho'
              have ho'':Dh ρ (D.st k) bb:=ho'
              exact(J.fr.own bb ho'').elim ho (fun hge=>by omega)
            · intro bb hb
              have hb':Dh ρ' (newObj s' ob) bb:=hb.same fun x _ _=>(hsame x).symm
              rcases h3.own bb hb' with h' | h'
              · exact J.fr.own bb h'
              · exact .inr (fx J.fr.size h')
            · cases h1 : ρ x with
              | some rb1 =>
                have:=h3.le _ _ h1
                rw[hx]at this
                injection this with this
                subst this
                exact J.fr.blk x _ h1 h0
              | none =>
                rcases h3.blk x rb hx h1 with h2 | ⟨j,o,rj,h2,h4,h5⟩
                · exact .inl (fx J.fr.size h2)
                · cases h6:ρ0 j with
                  | none=>rw[← h5];exact J.fr.blk j rj h4 h6
                  | some rj0 =>
                    have:=J.fr.le _ _ h6
                    rw[h4]at this
                    injection this with this
                    subst this
                    obtain⟨o',h7⟩:=J.fr.dom j o _ h2 h6
                    exact .inr ⟨j,o',_,h7,h6,h5⟩
          · intro q hq hqp hd hwq fq hfq
            obtain⟨_,_,_,_,u3,_,_,u6⟩:=J.unb q hq hd hwq fq hfq
            have hne':(D.st q).next≠(D.st p).next:=by
              rcases iL q p with h' | h' | h'
              · exact J.dis q p h' hlt hd hnd hwq hw (by rw[hfq];rfl) (by rw[he];rfl)
              · exact absurd h' hqp
              · exact(J.dis p q h' hq hnd hd hw hwq (by rw[he];rfl) (by rw[hfq];rfl)).symm
            refine⟨h3.fresh _ u3 ?_,rfl,u6⟩
            rcases Nat.lt_or_gt_of_ne hne' with h' | h'
            · exact .inl h'
            · exact .inr h'
          · intro q hq _ hd hwq hr
            exact J.rds q hq hd hwq hr
      | e f=>rw[he]at hne;cases hne
      | call f=>rw[he]at hne;cases hne
      | callv=>rw[he]at hne;cases hne
  ·
    have hpk:p=k:=by omega
    subst hpk
    have hkn:p<π.length:=hpn
    have he:(D.sh p).isEff=true:=htop.resolve_left (by omega)
    refine Sj hF J.inv J.fresh hoi (sok (s1:=D.st (p+1)) hs.yes (fun e=>(hs.no e).2)) hv hnt' ?_
    intro v' w' ρ' h1 h2 h3
    refine hK (p+1) ρ' _ w' (J.put ht hp hnt hi hnd (gY p) (gZ p) (fun q hq=>by omega) hkn hanc h1 h3.le h2 (J.fresh.step h3) (J.fr.trans h3) ?_ ?_)
    · intro q hq _ hd hw f hf
      obtain⟨ob,m,g1,g2,g3,g4,g5,g6⟩:=J.unb q hq hd hw f hf
      exact⟨h3.fresh _ g3 (.inl g6),h3.unborn _ g3 (.inl g6),fy g6 h3.next⟩
    · intro q hq _ hd hw hr
      have hqn:q<π.length:=by omega
      cases hwp:D.want p with
      | false=>rw[(hs.no hwp).2];exact J.rds q hq hd hw hr
      | true =>
        refine ht.ag p q i _ hi (place q hqn) hq he hwp hr ?_ hw
        cases hb:((Region.before ops).getD i 0).testBit π[q]with
        | false=>rfl
        | true=>exact absurd ⟨π[q],place q hqn,hanc _ (hp.lt q _ (place q hqn)) hb⟩ hd
theorem DJ.any (hF : ZP  P F) (ht : PT P F ops nt (Region.before ops) π D) (hpl : EH     P ops (Region.before ops) [] π = true) (hr0 : D5   ρ0 (D.R 0) a0.tmps) (hnt : nt ≤ a0.tmps.size)
    (hq:∀a' w' ρ',Av P ρ' (D.st π.length) w'→Ag ρ' (D.st π.length)→Fr ρ0 (D.st 0) w0 ρ' (D.st π.length) w'→D5 ρ' (D.R π.length) a'.tmps→a'.tmps.size=a0.tmps.size→a'.defers=a0.defers→Q .normal a' w'):
    ∀ (fuel:Nat) (listed:Array Bool) (k:Nat) (ρ:A4) (a:Act) (w:World),DJ P ops (Region.before ops) π D ρ0 w0 a0 listed k ρ a w→(∀l:List Nat,l.Nodup→(∀i∈l,listed[i]? = some false)→l.length≤fuel) →
      wpAnyIn (HN rnd) 0 P .any ops Q fuel listed a w:=by
  have hp:=IG hpl
  have place:∀ (q:Nat) (h:q<π.length),π[q]? = some π[q]:=fun q hq=>f9 hq
  have bool:∀ {listed:Array Bool} {i:Nat},i<listed.size→listed[i]?≠some true→listed[i]? = some false:=by
    intro listed i hi h
    rw[Array.getElem?_eq_getElem hi]at h ⊢
    cases hb:listed[i]with
    | true=>rw[hb]at h;exact absurd rfl h
    | false=>rfl
  have all:∀ {listed:Array Bool} {k:Nat} {ρ:A4} {a:Act} {w:World},DJ P ops (Region.before ops) π D ρ0 w0 a0 listed k ρ a w→Region.ready .any ops listed=[]→∀p,p<π.length→Dn π listed p:=by
    intro listed k ρ a w J hr p
    induction p using Nat.strongRecOn with
    | ind p ih =>
      intro hpn
      refine Classical.byContradiction fun hnd=>?_
      have hi:=place p hpn
      have hlt:=hp.lt p _ hi
      have hoi:=ht.op p _ hi
      have hf:listed[π[p]]? = some false:=bool (by rw[J.lsz];exact hlt) fun h=>hnd ⟨_,hi,h⟩
      have hm:π[p]∈Region.ready .any ops listed:=by
        refine mem_ready.2 ⟨by simp[Array.getD_eq_getD_getElem?,hf],D.o p,hoi,?_⟩
        intro e he hb
        obtain⟨q,hqp,hq'⟩:=hp.edge p _ _ hi hoi e he hb
        obtain⟨j,hj,hl⟩:=ih q hqp (by omega)
        rw[hq']at hj
        injection hj with hj
        subst hj
        simp[Array.getD_eq_getD_getElem?,hl]
      rw[hr]at hm
      cases hm
  have done:∀ {listed:Array Bool} {k:Nat} {ρ:A4} {a:Act} {w:World},DJ P ops (Region.before ops) π D ρ0 w0 a0 listed k ρ a w→Region.ready .any ops listed=[]→Q .normal a w:=by
    intro listed k ρ a w J hr
    have hall:=all J hr
    have hk:k=π.length:=by
      rcases fv k π.length with h' | h'
      · have:=J.dlt k (hall k h');omega
      · have:=J.kle;omega
    subst hk
    refine hq a w ρ J.inv J.fresh J.fr ?_ J.sz J.dfr
    intro t x hx
    rcases ht.regs_at π.length (fu _) t x hx with⟨q,hqn,hd,rfl⟩ | ⟨hno,h0⟩
    · exact⟨by rw[J.sz];exact fy ((ht.step q hqn).lt t hd) hnt,J.rw q (hall q hqn) t hd⟩
    · exact⟨by rw[J.sz];exact(hr0 t x h0).1,J.ri t (fun q dq=>hno q (J.dlt q dq)) x h0⟩
  intro fuel
  induction fuel with
  | zero =>
    intro listed k ρ a w J hfu
    have hr:Region.ready .any ops listed=[]:=by
      cases hr:Region.ready .any ops listed with
      | nil=>rfl
      | cons i l =>
        have hm:i∈Region.ready .any ops listed:=by rw[hr];exact gC
        obtain⟨h1,o,ho,_⟩:=mem_ready.1 hm
        have hlt:i<ops.size:=by
          rcases fv i ops.size with h' | h'
          · exact h'
          · rw[Array.getElem?_eq_none h']at ho;cases ho
        have:=hfu [i] (by simp) (fun j hj=>by
          have:j=i:=by simpa using hj
          subst this
          refine bool (by rw[J.lsz];exact hlt) fun h=>?_
          simp[Array.getD_eq_getD_getElem?,h]at h1)
        simp at this
    exact⟨hr,done J hr⟩
  | succ fuel ih =>
    intro listed k ρ a w J hfu
    obtain⟨k,J,htop⟩:=J.adv ht _ k rfl
    refine⟨done J,fun i hm=>?_⟩
    obtain⟨h1,o,ho,hr⟩:=mem_ready.1 hm
    have hlt:i<ops.size:=by
      rcases fv i ops.size with h' | h'
      · exact h'
      · rw[Array.getElem?_eq_none h']at ho;cases ho
    obtain⟨p,hi⟩:=hp.onto hlt
    have hf:listed[i]?≠some true:=fun h=>by simp[Array.getD_eq_getD_getElem?,h]at h1
    have hnd:¬ Dn π listed p:=fun⟨j,hj,hl⟩=>by
      rw[hi]at hj
      injection hj with hj
      subst hj
      exact hf hl
    refine J.run hF ht hpl hr0 hnt htop hi hnd (J.ahead hp hi ho hr) ?_
    intro k' ρ' a' w' J'
    refine ih _ k' ρ' a' w' J' ?_
    intro l hn hl
    have hil:i ∉ l:=fun h=>by
      have:=hl i h
      simp[J.lsz,hlt]at this
    have:=hfu (i::l) (gx.2 ⟨hil,hn⟩) (fun j hj=>by
      rcases hZ.1 hj with rfl | hj
      · exact bool (by rw[J.lsz];exact hlt) hf
      · have:=hl j hj
        rw[Array.getElem?_setIfInBounds_ne (fun e=>hil (by rw[e];exact hj))]at this
        exact this)
    simpa using this
theorem XZ(hF:ZP P F){R R2:Bp}{s s2:AE}(htr:Trace P F ops nt (Region.before ops) true π [] R s R2 s2)(hpl:EH P ops (Region.before ops) [] π=true)
  (h:Av P ρ s w) (hf:Ag ρ s) (hr:D5 ρ R a.tmps) (hnt:nt≤a.tmps.size)
  (hq:∀a' w' ρ',Av P ρ' s2 w'→Ag ρ' s2→Fr ρ s w ρ' s2 w'→D5 ρ' R2 a'.tmps→a'.tmps.size=a.tmps.size→a'.defers=a.defers→Q .normal a' w'):
  wpAnyIn (HN rnd) 0 P .any ops Q ops.size (Array.replicate ops.size false) a w:=by
 obtain⟨D,ht,e1,e2,e3,e4,_⟩:=Y8 htr
 subst e1;subst e2;subst e3;subst e4
 have nodn:∀p,¬ Dn π (Array.replicate ops.size false) p:=by
  rintro p ⟨i,_,h⟩
  rw[Array.getElem?_replicate]at h
  split at h<;>cases h
 refine DJ.any hF ht hpl hr hnt hq ops.size _ 0 ρ a w ⟨by simp,gF _,fun p h=>(nodn p h).elim,fun p h=>by omega,fun p i _ h=>(nodn p h).elim,h,hf,Fr.refl _ _ _,fun p h=>by omega,fun p q _ h=>by omega,fun p h=>by omega,rfl,rfl,fun p h=>(nodn p h).elim,?_⟩ ?_
 ·intro t _ x hx
  exact(hr t x hx).2
 ·intro l hn hl
  refine OA ops.size l hn fun i hi=>?_
  have:=hl i hi
  rw[Array.getElem?_replicate]at this
  split at this
  ·assumption
  ·cases this
end
section
variable{P:Program}{ρ ρ1 ρ2:A4}{s s1 s2:AE}{w w1 w2:World}
theorem Oe{b:Frame}{a:Act}{k:List Item}{cs:List Frame}{c:Code}:step P (lone (b.atR a (.code (.scope c)::k)) cs w)=.next (lone (b.atR a (.code c::.inScope c::k)) cs w):=
 step_lone_go (by simp[stepG,stepG.exec,Frame.atR])
theorem K4{b:Frame}{a:Act}{k:List Item}{cs:List Frame}{c:Code}:step P (lone (b.atR a (.inScope c::k)) cs w)=.next (lone (b.atR a k) cs w):=
 step_lone_go (by simp[stepG,stepG.exec,Frame.atR])
def ay(Q:Exit→Act→World→Prop):Exit→Act→World→Prop
 | .goto _,_,_=>False
 | e,a,w=>Q e a w
theorem Q3{F:Fence}{n:Nat}{Q:Exit→Act→World→Prop}{a:Act}{c:Code}(h:c.wpIn F n P (ay Q) a w):(Code.scope c).wpIn F n P Q a w:=by
 intro b k cs hro hb hr
 obtain⟨e,a₁,w₁,hq,harr⟩:=h b (.inScope c::k) cs hro hb hr
 have h1:StepsIn (Machine.fenced P F) P (lone (b.atR a (.code (.scope c)::k)) cs w) (lone (b.atR a (.code c::.inScope c::k)) cs w):=.one (fenced_calm hb hr rfl) Oe
 cases e with
 | normal=>exact⟨.normal,a₁,w₁,hq,h1.trans (StepsIn.trans harr (.one (fenced_calm hb hr rfl) K4))⟩
 | exit id=>exact⟨.exit id,a₁,w₁,hq,.of_steps h1 ⟨fun k' hk=>harr.1 k' (by simpa[exitTo]using hk),fun h2 hk=>harr.2 h2 (by simpa[exitTo]using hk)⟩⟩
 | goto l=>exact hq.elim
 | ret=>exact⟨.ret,a₁,w₁,hq,ArrivesIn.of_steps (k:=k) (e:=.ret) h1 harr⟩
 | panic ch=>exact⟨.panic ch,a₁,w₁,hq,ArrivesIn.of_steps (k:=k) (e:=.panic ch) h1 harr⟩
 | outgrown=>exact⟨.outgrown,a₁,w₁,hq,ArrivesIn.of_steps (k:=k) (e:=.outgrown) h1 harr⟩
structure Al(P:Program)(ρ:A4)(fn:Func)(var:List AV)(tmps:Array Value):Prop where
 len:var.length=(Ac P fn).length
 rel:DP ρ (Ac P fn) var tmps
 size:fn.ntmps≤tmps.size
theorem Al.mono{fn:Func}{var:List AV}{tmps:Array Value}(h:Al P ρ fn var tmps)(le:ρ.le ρ1):Al P ρ1 fn var tmps:=⟨h.len,h.rel.mono le,h.size⟩
def IJ(vars:List Tmp)(var:List AV):Bp:=fun t=>(Ao vars t).bind fun k=>var[k]?
theorem Io{vars:List Tmp}{var:List AV}(h:var.length=vars.length):DX vars ⟨[],0⟩ [] var (IJ vars var):=by
 refine⟨h,fun t p e=>(by cases e),fun t x e=>(by cases e),?_⟩
 intro t x hx
 unfold Dm at hx
 simp only[Dj]at hx
 simp only[ft]at hx
 obtain⟨j,h1,h2⟩:=hx
 injection h2 with h2
 subst h2
 have hj:j<var.length:=by rw[h];exact Cj h1
 simp only[IJ,h1,Option.bind_some,B2,CO]
 rw[f9 hj,IF (f9 hj)]
theorem Fz{fn:Func}{var:List AV}{tmps:Array Value}(h:Al P ρ fn var tmps):D5 ρ (IJ (Ac P fn) var) tmps:=by
 intro t v hv
 simp only[IJ,ft]at hv
 obtain⟨k,h1,h2⟩:=hv
 obtain⟨h3,v',h4,h5⟩:=h.rel t k h1
 rw[h2]at h4
 injection h4 with h4
 subst h4
 exact⟨h3,h5⟩
theorem Tp{fn:Func}{c:ZO}{loc var:List AV}{R:Bp}{tmps:Array Value}(hc:DX (Ac P fn) c loc var R)(hr:D5 ρ R tmps)(hs:fn.ntmps≤tmps.size):Al P ρ fn var tmps:=by
 refine⟨hc.vlen,?_,hs⟩
 intro t k hk
 have hl:Dj c.map t=none:=by
  cases h:Dj c.map t with
  | none=>rfl
  | some x=>have:=hc.keys t x h;rw[hk]at this;cases this
 have hx:Dm (Ac P fn) c t=some (.var k):=by unfold Dm;rw[hl,hk];rfl
 have hv:=hc.val t _ hx
 have hj:k<var.length:=by rw[hc.vlen];exact Cj hk
 obtain⟨h1,h2⟩:=hr t _ hv
 refine⟨h1,_,f9 hj,?_⟩
 have e:If var k=var[k]:=IF (f9 hj)
 simp only[B2,CO,e]at h2
 exact h2
theorem KK{fn:Func}{var:List AV}{a:Act}(h:Al P ρ fn var a.tmps){o:Operand}{x:CX}(hx:Dk (Ac P fn) ⟨[],0⟩ o=some x):AL ρ (CO [] var x) (a.eval o):=by
 have hc:=Io h.len
 have:=KL hc hx
 have e:B2 0 x=x:=by
  cases x with
  | loc p=>exact absurd (KJ hc hx p rfl) (Nat.not_lt_zero _)
  | _=>rfl
 rw[e]at this
 exact ON (Fz h) this
theorem Fv:∀ (n:Nat)(l:List AV),(Ql l n).length=n
 | 0,_=>rfl
 | n+1,[]=>by simp[Ql,Fv n]
 | n+1,_::l=>by simp[Ql,Fv n]
theorem KO:∀ (n:Nat)(l:List AV)(k:Nat),k<n→(Ql l n)[k]? = some (l.getD k BU)
 | 0,_,k,h=>by omega
 | n+1,[],k,h=>by
  cases k with
  | zero=>rfl
  | succ k=>simpa[Ql]using KO n [] k (by omega)
 | n+1,a::l,k,h=>by
  cases k with
  | zero=>rfl
  | succ k=>simpa[Ql]using KO n l k (by omega)
theorem Dr(m:Nat):∀ (n k x:Nat),x∈Eh m n k→k≤x∧x<k+n
 | 0,k,x,h=>by cases h
 | n+1,k,x,h=>by
  unfold Eh at h
  cases hb:m.testBit k with
  | true =>
   rw[hb]at h
   simp only[cond_true]at h
   rcases hZ.1 h with rfl | h
   ·omega
   ·have:=Dr m n (k+1) x h;omega
  | false =>
   rw[hb]at h
   simp only[cond_false]at h
   have:=Dr m n (k+1) x h;omega
theorem bY      {fn : Func} {aS : List AV} {as' : Array Value} (ha : AK    ρ aS as'.toList) (hn : aS.length = Ci     fn) (hle : Ci     fn ≤ fn.ntmps) :
    Al P ρ fn (Ql aS (Ac P fn).length) (as'++Array.replicate (fn.ntmps - as'.size) undef):=by
  have hsz:as'.size=Ci fn:=by have:=ha.length;simp at this;omega
  refine⟨Fv _ _,?_,by simp;omega⟩
  intro t k hk
  have hg:=ER hk
  have hlt:=Cj hk
  refine⟨?_,_,KO _ _ k hlt,?_⟩
  all_goals unfold Ac at hg
  · have hm:t∈(List.range (Ci fn)++match fn.body with
        | none=>[]
        | some c=>Eh (Nat.lor (Du P c) (Gy fn.results.toList)) (fn.ntmps - Ci fn) (Ci fn)):=gR hg
    rcases List.mem_append.1 hm with h | h
    · have h9:(t:Nat)<Ci fn:=List.mem_range.1 h
      rw[Array.size_append,Array.size_replicate]
      exact fy h9 (by omega)
    · cases hb:fn.body with
      | none=>rw[hb]at h;cases h
      | some c =>
        rw[hb]at h
        have h9:=(Dr _ _ _ _ h).2
        rw[Array.size_append,Array.size_replicate]
        exact fy h9 (by omega)
  · by_cases hka : k < Ci     fn
    · rw [gi                        (by simpa using hka)] at hg
      rw[List.getElem?_range hka]at hg
      injection hg with hg
      subst hg
      obtain⟨v',h1,h2⟩:=ha.get (k:=k) (v:=aS[k]'(by omega)) (f9 (by omega))
      have e1:aS.getD k BU=aS[k]'(by omega):=by simp[show k<aS.length by omega]
      have e2:(as'++Array.replicate (fn.ntmps - as'.size) undef).getD k undef=v':=by
        have h1':as'[k]? = some v':=by simpa using h1
        have hk':k<as'.size:=by omega
        simp[Array.getD_eq_getD_getElem?,Array.getElem?_append_left hk',h1']
      rw[e1,e2]
      exact h2
    · rw[gj (by simpa using hka)]at hg
      have ht:Ci fn≤t:=by
        cases hb:fn.body with
        | none=>rw[hb]at hg;simp at hg
        | some c=>rw[hb]at hg;exact(Dr _ _ _ _ (gR hg)).1
      have e1:aS.getD k BU=BU:=by simp[show aS.length≤k by omega]
      have e2:(as'++Array.replicate (fn.ntmps - as'.size) undef).getD t undef=undef:=by
        rw[Array.getD_eq_getD_getElem?,Array.getElem?_append_right (by omega),Array.getElem?_replicate]
        split<;>rfl
      rw[e1,e2]
      exact Cq ρ
def BS(ρ:A4):List Nat→List Deferred→Prop
 | [],ds=>ds=[]
 | i::l,ds=>∃rb ds',ρ i=some rb∧ds={ target:=.collected rb.b,args:=#[] }::ds'∧BS ρ l ds'
theorem BS.mono:∀ {l:List Nat}{ds:List Deferred},BS ρ l ds→ρ.le ρ1→BS ρ1 l ds
 | [],_,h,_=>h
 | _::_,_,⟨rb,ds',h1,h2,h3⟩,le=>⟨rb,ds',le _ _ h1,h2,BS.mono h3 le⟩
theorem Av.unmark1(h:Av P ρ s w){i:Nat}{rb:RB}(hg:s.heap.get i=some .mark)(hr:ρ i=some rb):
  Av P ρ (Bu s i) (w.putObj rb.b (.deferred none))∧Fr ρ s w ρ (Bu s i) (w.putObj rb.b (.deferred none)):=by
 let o1:AX:=.row { elem:=default,sz:=rb.sz,n:=0,c:=.leaf,spare:=true,mode:=.ro,par:=none,bytes:=false }
 have ho:Cx P ρ (w.putObj rb.b (.deferred none)) o1 rb:=
  ⟨fun k v hk=>absurd hk (Nat.not_lt_zero k),gF _,rfl,(fun e=>by cases e),fun e=>absurd rfl e,(fun e=>by cases e),(fun g e=>by cases e),fun p e=>by cases e⟩
 obtain⟨h1,h2⟩:=h.set (w1:=w.putObj rb.b (.deferred none)) (o1:=o1) hg hr rfl (fun p e=>by cases e) rfl World.putObj_size (fun b hb=>World.putObj_heap_other hb) rfl rfl rfl ho
 obtain⟨h3,h4⟩:=h1.del hr
 have e:∀x,(Bu (setObj s i o1) i).heap.get x=(Bu s i).heap.get x:=by
  intro x
  rw[A9,A9,BE]
  by_cases h':x=i
  ·simp[h']
  ·simp[h']
 have h5:=h2.trans h4
 refine⟨h3.same (fun x _ _=>(e x).symm) fun j o g hj hgo=>h3.glb j o g (by rw[e j];exact hj) hgo,⟨h5.le,h5.fresh,h5.next,h5.size,h5.os,h5.tape,h5.output,h5.keep,fun b hb=>h5.own b (hb.same fun x _ _=>(e x).symm),fun x hx hy=>(e x).symm.trans (h5.unborn x hx hy),h5.blk,fun x o r hx hr=>h5.dom x o r (by rw[e x];exact hx) hr⟩⟩
theorem Mk{fn:Func}{tmps:Array Value}{R:Ending→World→Prop}:∀ {marks:List Nat}{ds:List Deferred}{s s':AE}{w:World},BS ρ marks ds→DA s marks=some s'→Av P ρ s w →
  (∀w',Av P ρ s' w'→Fr ρ s w ρ s' w'→∃v,(results fn tmps).run P w'=.ok v w'∧R (.returned v) w')→LeavesInM Fence.wide 0 P fn tmps R ds .returning w:=by
 intro marks
 induction marks with
 | nil =>
  intro ds s s' w hm hu hi hk
  have hm:ds=[]:=hm
  subst hm
  injection hu with hu
  subst hu
  exact hk w hi (Fr.refl _ _ _)
 | cons i l ih =>
  intro ds s s' w hm hu hi hk
  obtain⟨rb,ds',h1,rfl,h3⟩:=hm
  unfold DA at hu
  split at hu
  ·rename_i hg
   obtain⟨h4,h5⟩:=hi.unmark1 hg h1
   have hb:w.heap[rb.b]? = some (.deferred (some [])):=hi.obj i _ rb hg h1
   refine⟨by simp,.inl ⟨rb.b,_,rfl,run_takeDeferred hb,?_⟩⟩
   exact ih h3 hu h4 fun w' g1 g2=>hk w' g1 (h5.trans g2)
  ·cases hu
def Yl(tmps:Array Value):ResultVar→Sem Value
 | .tmp t=>Pure.pure (tmps.getD t undef)
 | .cell a t=>do loadVar t (← asAddr (tmps.getD a undef))
theorem QJ(fn:Func)(tmps:Array Value):results fn tmps=(do
  let vs ← fn.results.mapM (Yl tmps)
  Pure.pure (if h:vs.size=1 then vs[0]else .tuple vs)):=by
 have:(fun r:ResultVar=>(match r with
   | .tmp t=>(Pure.pure (tmps.getD t undef):Sem Value)
   | .cell a t=>do loadVar t (← asAddr (tmps.getD a undef))))=Yl tmps:=by funext r;cases r<;>rfl
 rw[← this]
 rfl
theorem M2           {vars : List Tmp} {var : List AV} {tmps : Array Value} (hI : Av  P ρ s w) (hr : DP      ρ vars var tmps) : ∀ {rs : List ResultVar} {cr : List (CX × Option TypeId)} {l : List AV}, CJ          vars rs = some cr → Bb       P s var cr = some l →
    ∃l':List Value,(rs.mapM (Yl tmps)).run P w=.ok l' w∧AK ρ l l':=by
  intro rs
  induction rs with
  | nil=>intro cr l hc ha;injection hc with hc;subst hc;injection ha with ha;subst ha;exact⟨[],rfl,.nil⟩
  | cons r rs ih =>
    intro cr l hc ha
    cases r with
    | tmp t =>
      simp only[CJ,ft]at hc
      obtain⟨j,h1,cr',h2,h3⟩:=hc
      injection h3 with h3
      subst h3
      simp only[Bb,ft]at ha
      obtain⟨l1,h4,h5⟩:=ha
      injection h5 with h5
      subst h5
      obtain⟨l',h6,h7⟩:=ih h2 h4
      obtain⟨h8,v,h9,h10⟩:=hr t j h1
      refine⟨tmps.getD t undef::l',?_,.cons ?_ h7⟩
      · rw[List.mapM_cons]
        simp[Yl,Sem.run_bind,h6,Result.andThen]
      · simp only[CO];rw[IF h9];exact h10
    | cell t ty =>
      simp only[CJ,ft]at hc
      obtain⟨j,h1,cr',h2,h3⟩:=hc
      injection h3 with h3
      subst h3
      simp only[Bb,ft]at ha
      obtain⟨v,hv,l1,h4,h5⟩:=ha
      injection h5 with h5
      subst h5
      obtain⟨l',h6,h7⟩:=ih h2 h4
      obtain⟨h8,x,h9,h10⟩:=hr t j h1
      simp only[CO]at hv
      rw[IF h9]at hv
      obtain⟨v',_,g2,ad,g3,g4⟩:=J7 hI hv h10
      refine⟨v'::l',?_,.cons g2 h7⟩
      rw[List.mapM_cons]
      simp only[Yl]
      rw[g3]
      simp[Sem.run_bind,h6,Result.andThen,asAddr,g4]
theorem QK         {fn : Func} {vars : List Tmp} {var : List AV} {tmps : Array Value} (hI : Av  P ρ s w) (hr : DP      ρ vars var tmps) {cr : List (CX × Option TypeId)} {l : List AV}
    (hc:CJ vars fn.results.toList=some cr) (ha:Bb P s var cr=some l):∃v,(results fn tmps).run P w=.ok v w∧AL ρ (BN l) v:=by
  obtain⟨l',h1,h2⟩:=M2 hI hr hc ha
  refine⟨if h:l'.toArray.size=1 then l'.toArray[0]else .tuple l'.toArray,?_,?_⟩
  · rw[QJ,Array.mapM_eq_mapM_toList]
    simp[Sem.run_bind,h1,Result.andThen,Sem.run_map]
  · cases h2 with
    | nil=>simp[BN];exact .tuple .nil
    | cons h hs =>
      cases hs with
      | nil=>simpa[BN]using h
      | cons h' hs' =>
        simp[BN]
        exact .tuple (.cons h (.cons h' hs'))
theorem NG           {vars : List Tmp} : ∀ {ts : List Tmp} {vs : List AV} {vs' : List Value} {var var' : List AV} {tmps : Array Value}, DN        vars var ts vs = some var' → DP      ρ vars var tmps → var.length = vars.length → AK    ρ vs vs' →
    DP ρ vars var' ((ts.zip vs').foldl (fun tmps (p:Tmp×Value)=>tmps.setIfInBounds p.1 p.2) tmps)∧var'.length=vars.length∧((ts.zip vs').foldl (fun tmps (p:Tmp×Value)=>tmps.setIfInBounds p.1 p.2) tmps).size=tmps.size∧ts.length=vs'.length:=by
  intro ts
  induction ts with
  | nil =>
    intro vs vs' var var' tmps hz hr hl hv
    cases vs with
    | nil=>cases hv;injection hz with hz;subst hz;exact⟨hr,hl,rfl,rfl⟩
    | cons=>cases hz
  | cons t ts ih =>
    intro vs vs' var var' tmps hz hr hl hv
    cases vs with
    | nil=>cases hz
    | cons v vs =>
      cases hv with
      | cons h hs =>
        rename_i v' vs'
        simp only[DN,ft]at hz
        obtain⟨j,hj,hz⟩:=hz
        have hjl:j<var.length:=by rw[hl];exact Cj hj
        obtain⟨ht,_⟩:=hr t j hj
        have key:DP ρ vars (E3 v var j) (tmps.setIfInBounds t v'):=by
          intro u k hk
          obtain⟨g1,x,g2,g3⟩:=hr u k hk
          refine⟨by simpa using g1,?_⟩
          by_cases e:u=t
          · subst e
            rw[hj]at hk
            injection hk with hk
            subst hk
            refine⟨v,by rw[Df];simp[hjl],?_⟩
            simpa[Array.getD_eq_getD_getElem?,ht]using h
          · have ejk:j≠k:=fun e'=>by subst e';exact e (Fx hk hj)
            refine⟨x,by rw[Df,gy ejk];exact g2,?_⟩
            have:(tmps.setIfInBounds t v').getD u undef=tmps.getD u undef:=by
              simp[Array.getD_eq_getD_getElem?,Array.getElem?_setIfInBounds_ne (Ne.symm e)]
            rw[this]
            exact g3
        obtain⟨h1,h2,h3,h4⟩:=ih (tmps:=tmps.setIfInBounds t v') hz key (by rw[Df,iA];exact hl) hs
        exact⟨h1,h2,by simpa using h3,by simpa using h4⟩
end
end
end Go.Proofs.YtfgmceookgelcaaGreatDoor.Am
