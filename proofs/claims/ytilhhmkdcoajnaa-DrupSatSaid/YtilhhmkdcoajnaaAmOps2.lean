/- Slice expressions, copy, clear, maps; conditions: none. -/
import Derived.Test.YtilhhmkdcoajnaaAmOps
set_option linter.unusedVariables false
set_option linter.unusedSimpArgs false
namespace Go.Proofs.Ytilhhmkdcoajnaa.Am
open Go
noncomputable section
section
variable{P:Program}{ρ ρ1 ρ2:Rho}{s s1 s2:ASt}{w w1 w2:World}
theorem Er{x:AV}{x':Value}{y i:Nat}(h:At x y=some i)(hx:Aa ρ x x')(code:BoundsCode):
    i≤y∧(Instr.sliceBound x' y code).run P w=.ok i w:=by
  unfold At at h
  simp only[oE]at h
  obtain⟨k,hk,h⟩:=h
  obtain⟨hle,h⟩:=AJ h
  injection h with h;subst h
  obtain⟨kd,rfl⟩:=LN hk hx
  have hle:k≤y:=by simpa[oQ]using hle
  refine⟨hle,?_⟩
  have:(0:Int)≤(k:Int)∧(k:Int)≤(y:Int):=by omega
  simp[Instr.sliceBound,asIntOf,this]
inductive KQ (ρ:Rho):Option AV→Option Value→Prop
  | none:KQ ρ none none
  | some {v:AV} {v':Value} (h:Aa ρ v v'):KQ ρ (some v) (some v')
def MxOk(cap m:Nat):Option AV→Prop
  | some v=>At v cap=some m
  | none=>m=cap
def HiOk(mx:Option AV)(len m h:Nat):Option AV→Prop
  | some v=>At v m=some h
  | none=>h=len∧mx=none
def mD(h l:Nat):Option AV→Prop
  | some v=>At v h=some l
  | none=>l=0
theorem Dz{lo hi mx:Option AV}{lo' hi' mx':Option Value}(hlo:KQ ρ lo lo')(hhi:KQ ρ hi hi')(hmx:KQ ρ mx mx')(isS:Bool){len cap m h l:Nat}
    (h1:MxOk cap m mx) (h2:HiOk mx len m h hi) (h3:mD h l lo):
    (Instr.sliceBounds isS len cap lo' hi' mx').run P w=.ok (l,h,m) w:=by
  unfold Instr.sliceBounds
  cases hmx with
  | none =>
    have h1:m=cap:=h1
    subst h1
    cases hhi with
    | none =>
      obtain⟨rfl,_⟩:=h2
      cases hlo with
      | none=>have h3:l=0:=h3;subst h3;simp
      | some hv=>obtain⟨_,e⟩:=Er (P:=P) (w:=w) h3 hv .sliceB;simp[e]
    | some hv =>
      obtain⟨_,e⟩:=Er (P:=P) (w:=w) h2 hv (if isS then .sliceAcap else .sliceAlen)
      cases hlo with
      | none=>have h3:l=0:=h3;subst h3;simp[e]
      | some hv2=>obtain⟨_,e2⟩:=Er (P:=P) (w:=w) h3 hv2 .sliceB;simp[e,e2]
  | some hm =>
    obtain⟨_,e0⟩:=Er (P:=P) (w:=w) h1 hm (if isS then .slice3Acap else .slice3Alen)
    cases hhi with
    | none=>exact absurd h2.2 (by simp)
    | some hv =>
      obtain⟨_,e⟩:=Er (P:=P) (w:=w) h2 hv .slice3B
      cases hlo with
      | none=>have h3:l=0:=h3;subst h3;simp[e0,e]
      | some hv2=>obtain⟨_,e2⟩:=Er (P:=P) (w:=w) h3 hv2 .slice3C;simp[e0,e,e2]
theorem Jc{x:AV}{y z i:Nat}(h:At x y=some i)(hle:y≤z):At x z=some i:=by
  unfold At at h ⊢
  simp only[oE]at h ⊢
  obtain⟨k,hk,h⟩:=h
  obtain⟨h1,h2⟩:=AJ h
  refine⟨k,hk,?_⟩
  have:k≤y:=by simpa[oQ]using h1
  have:Nat.ble k z=true:=by simp[oQ];omega
  simp only[AF,this,cond_true]
  exact h2
theorem C3{x:AV}{y i:Nat}(h:At x y=some i):i≤y:=by
  unfold At at h
  simp only[oE]at h
  obtain⟨k,hk,h⟩:=h
  obtain⟨h1,h2⟩:=AJ h
  injection h2 with h2;subst h2
  simpa[oQ]using h1
theorem IK(s:ByteArray)(o h:Nat):FY (s.extract o h).data.toList=((FY s.data.toList).drop o).take (h - o):=by
  simp[FY,pf,List.map_drop,Array.toList_extract]
theorem Vo{lo hi mx:Option AV}{lo' hi' mx':Option Value}(hlo:KQ ρ lo lo')(hhi:KQ ρ hi hi')(hmx:KQ ρ mx mx'){len i o:Nat}{e:TypeId}{v:AV}{rb:RB}(hr:ρ i=some rb)
    (hs:Ap.arr P lo hi mx len e i o=some v):
    ∃l h m n,(Instr.sliceBounds false len len lo' hi' mx').run P w=.ok (l,h,m) w∧BB P e=some n ∧
      Aa ρ v (.slice (some (if m=l then ⟨rb.b,rb.off+o,none⟩else (⟨rb.b,rb.off+o,none⟩:Addr).add (l * n))) (h - l) (m - l)):=by
  unfold Ap.arr at hs
  simp only[oE]at hs
  obtain⟨n,hn,m,hm,h,hh,l,hl,hs⟩:=hs
  injection hs with hs;subst hs
  have hmh:h≤m:=by
    cases hi with
    | some v=>exact C3 hh
    | none =>
      cases mx with
      | none=>simp at hm hh;omega
      | some _=>simp at hh
  have hlh:l≤h:=by
    cases lo with
    | some v=>exact C3 hl
    | none=>simp at hl;omega
  refine⟨l,h,m,n,Dz hlo hhi hmx false ?_ ?_ ?_,hn,?_⟩
  · cases mx with
    | some v=>exact hm
    | none=>simp at hm;show m=len;omega
  · cases hi with
    | some v=>exact hh
    | none =>
      cases mx with
      | none=>simp at hh;exact⟨by omega,rfl⟩
      | some _=>simp at hh
  · cases lo with
    | some v=>exact hl
    | none=>simp at hl;show l=0;omega
  · by_cases e1 : m = l
    · rw[if_pos e1,show Nat.beq m l=true from by subst e1;simp]
      exact .slice hr (by omega)
    · rw[if_neg e1,show Nat.beq m l=false from by cases hb:Nat.beq m l with | true=>exact absurd (A5 hb) e1 | false=>rfl,Cg,cond_false,pJ]
      exact .slice hr (by omega)
theorem Eu        (hI : Inv P ρ s w) {t : TypeId} {x v : AV} {x' : Value} {lo hi mx : Option AV} {lo' hi' mx' : Option Value} (hs : Ap     P s t x lo hi mx = some v) (hx : Aa   ρ x x')
    (hlo:KQ ρ lo lo') (hhi:KQ ρ hi hi') (hmx:KQ ρ mx mx'):
    ∃v',(Instr.sliceAt t x' lo' hi' mx').run P w=.ok v' w∧Aa ρ v v':=by
  unfold Ap at hs
  split at hs<;>first | (cases hs;done) | skip
  ·
    rename_i l
    simp only[oE]at hs
    obtain⟨_,h0,h,hh,o,ho,_,hu,hs⟩:=hs
    injection hs with hs;subst hs
    split at hu<;>first | (cases hu;done) | skip
    rename_i hu'
    cases hmx with
    | some _=>cases h0
    | none =>
      cases hx with
      | str he =>
        rename_i b
        subst he
        have hlen:(FY b.data.toList).length=b.size:=Fs b
        have hb:(Instr.sliceBounds false b.size b.size lo' hi' none).run P w=.ok (o,h,b.size) w:=by
          refine Dz hlo hhi .none false rfl ?_ ?_
          · cases hi with
            | some v=>simp only at hh;rw[hlen]at hh;exact hh
            | none=>simp only[Option.some.injEq]at hh;rw[hlen]at hh;exact⟨hh.symm,rfl⟩
          · cases lo with
            | some v=>exact ho
            | none=>simp only[Option.some.injEq]at ho;exact ho.symm
        refine⟨.string (b.extract o h),?_,.str (IK b o h)⟩
        simp[Instr.sliceAt,Instr.slice,AL hu',hb]
  ·
    rename_i a len cap
    split at hs<;>first | (cases hs;done) | skip
    rename_i e hu
    simp only[oE]at hs
    obtain⟨n,hn,far,hfar,m,hm,h,hh,l,hl,hs⟩:=hs
    injection hs with hs;subst hs
    have key:∀ (a':Option Addr) (c M:Nat),x'=.slice a' len c→(Instr.sliceBounds true len c lo' hi' mx').run P w=.ok (l,h,M) w →
        (Instr.sliceAt t x' lo' hi' mx').run P w=.ok (.slice (if M=l then a' else a'.map (·.add (l * n))) (h - l) (M - l)) w:=by
      intro a' c M hx1 hb
      subst hx1
      simp[Instr.sliceAt,Instr.slice,AL hu,hb,BH hn]
    have hlh:l≤h:=by
      cases lo with
      | some v=>exact C3 hl
      | none=>simp at hl;omega
    have hl':mD h l lo:=by
      cases lo with
      | some v=>exact hl
      | none=>simp at hl;show l=0;omega
    cases a with
    | none =>
      cases hx
      cases mx with
      | none =>
        simp only[Option.some.injEq]at hm hfar
        subst hm
        have hh0:h≤0:=by
          cases hi with
          | some v=>exact C3 hh
          | none=>simp at hh;omega
        have hb:(Instr.sliceBounds true 0 0 lo' hi' mx').run P w=.ok (l,h,0) w:=by
          refine Dz hlo hhi hmx true rfl ?_ hl'
          cases hi with
          | some v=>exact hh
          | none=>simp at hh;exact⟨by omega,rfl⟩
        refine⟨_,key none 0 0 rfl hb,?_⟩
        have e1:h - l=0:=by omega
        simp only[e1,Option.map_none,Nat.zero_sub,ite_self]
        exact .sliceNil
      | some mv =>
        simp only[Option.some.injEq]at hfar
        subst hfar
        simp only[oE]at hm
        obtain⟨c,hc,hm⟩:=hm
        obtain⟨_,hm⟩:=AJ hm
        injection hm with hm;subst hm
        have hc0:c≤0:=C3 hc
        have hc0:c=0:=by omega
        subst hc0
        have hh0:h≤0:=by
          cases hi with
          | some v=>exact C3 hh
          | none=>simp at hh
        have hb:(Instr.sliceBounds true 0 0 lo' hi' mx').run P w=.ok (l,h,0) w:=by
          refine Dz hlo hhi hmx true hc ?_ hl'
          cases hi with
          | some v=>exact hh
          | none=>simp at hh
        refine⟨_,key none 0 0 rfl hb,?_⟩
        have e1:h - l=0:=by omega
        simp only[e1,Option.map_none,Nat.zero_sub,ite_self]
        exact .sliceNil
    | some io =>
      obtain⟨i,o⟩:=io
      obtain⟨rb,ad,c,hr,hv,hlc,hexact,hopen⟩:=Cz hx
      have hfc:far≤c∧(cap=none→ad=⟨rb.b,rb.off+o,none⟩∨far=0)∧(cap=none→rb.sz=n):=by
        cases cap with
        | some c0 =>
          obtain⟨rfl,_⟩:=hexact c0 rfl
          simp only[Option.some.injEq]at hfar
          exact⟨by omega,(fun q=>by cases q),fun q=>by cases q⟩
        | none =>
          simp only[oE]at hfar
          obtain⟨r,hrow,hfar⟩:=hfar
          obtain⟨hg,hfar⟩:=AJ hfar
          injection hfar with hfar
          simp only[Bool.and_eq_true,Bool.not_eq_true',oQ]at hg
          obtain⟨⟨g1,g2⟩,g3⟩:=hg
          have g2:=A5 g2
          have hn0:0<n:=by
            rcases pO n with e0 | h'
            · subst e0;cases g3
            · exact h'
          have hok:Fe ρ w r rb:=hI.obj i _ rb (Cn hrow) hr
          have hsz:rb.sz=n:=by rw[← hok.sz];exact g2.symm
          have hle:=hok.le
          obtain⟨_,hc⟩:=hopen rfl
          rw[hsz]at hc
          rcases hc with⟨e1,c1,c2⟩ | ⟨e1,e2,c1,c2⟩
          · refine ⟨?_, fun _ => .inl e1, fun _ => hsz⟩
            rw[← hfar]
            exact Nat.lt_succ_iff.1 ((Nat.div_lt_iff_lt_mul hn0).2 (by rw[Nat.succ_eq_add_one];omega))
          · have:far=0:=by rw[← hfar];exact Nat.div_eq_of_lt (by omega)
            exact⟨by omega,fun _=>.inr this,fun _=>hsz⟩
      obtain⟨hfc,hfa,hsn⟩:=hfc
      subst hv
      cases mx with
      | some mv =>
        simp only[oE]at hm
        obtain⟨c1,hc1,hm⟩:=hm
        obtain⟨hg,hm⟩:=AJ hm
        injection hm with hm;subst hm
        have had:ad=⟨rb.b,rb.off+o,none⟩:=by
          cases cap with
          | some c0=>exact(hexact c0 rfl).2
          | none =>
            rcases hfa rfl with h' | h'
            · exact h'
            · simp[oq]at hg
              omega
        have hh1:h≤c1:=by
          cases hi with
          | some v=>exact C3 hh
          | none=>simp at hh
        have hb:(Instr.sliceBounds true len c lo' hi' mx').run P w=.ok (l,h,c1) w:=by
          refine Dz hlo hhi hmx true (Jc hc1 hfc) ?_ hl'
          cases hi with
          | some v=>exact hh
          | none=>simp at hh
        refine⟨_,key _ c c1 rfl hb,?_⟩
        subst had
        by_cases e1:c1=l
        · rw[if_pos e1]
          simp only[show Nat.beq c1 l=true from by subst e1;simp,cond_true]
          exact .slice hr (by omega)
        · rw[if_neg e1]
          simp only[show Nat.beq c1 l=false from by cases hb:Nat.beq c1 l with | true=>exact absurd (A5 hb) e1 | false=>rfl,Cg,cond_false,pJ,Option.map_some]
          exact .slice hr (by omega)
      | none =>
        simp only[Option.some.injEq]at hm
        subst hm
        cases cap with
        | some c0 =>
          obtain⟨rfl,had⟩:=hexact c0 rfl
          have hh1:h≤c:=by
            cases hi with
            | some v=>exact C3 hh
            | none=>simp at hh;omega
          have hb:(Instr.sliceBounds true len c lo' hi' mx').run P w=.ok (l,h,c) w:=by
            refine Dz hlo hhi hmx true rfl ?_ hl'
            cases hi with
            | some v=>exact hh
            | none=>simp at hh;exact⟨by omega,rfl⟩
          refine⟨_,key _ c c rfl hb,?_⟩
          subst had
          by_cases e1:c=l
          · rw[if_pos e1]
            simp only[show Nat.beq c l=true from by subst e1;simp,cond_true]
            exact .slice hr (by omega)
          · rw[if_neg e1]
            simp only[show Nat.beq c l=false from by cases hb:Nat.beq c l with | true=>exact absurd (A5 hb) e1 | false=>rfl,Cg,cond_false,pJ,Option.map_some]
            exact .slice hr (by omega)
        | none =>
          obtain⟨hs0,hc⟩:=hopen rfl
          have hsn:=hsn rfl
          have hh1:h≤c:=by
            cases hi with
            | some v=>exact oS (C3 hh) hfc
            | none=>simp at hh;omega
          have hb:(Instr.sliceBounds true len c lo' hi' mx').run P w=.ok (l,h,c) w:=by
            refine Dz hlo hhi hmx true rfl ?_ hl'
            cases hi with
            | some v=>exact Jc hh hfc
            | none=>simp at hh;exact⟨by omega,rfl⟩
          refine⟨_,key _ c c rfl hb,?_⟩
          rw[hsn]at hc hs0
          simp only
          rcases hc with⟨rfl,c1,c2⟩ | ⟨rfl,rfl,c1,c2⟩
          · by_cases e1 : c = l
            · subst e1
              rw[if_pos rfl,show h - c=0 from by omega,pX]
              rw[pC,Nat.one_mul]at c2
              exact .sliceEnd hr (by omega) (by omega) (by rw[hsn];omega)
            · rw[if_neg e1]
              simp only[Option.map_some,Cg,pJ]
              obtain⟨d,hd⟩:∃d,c=l+d:=⟨c - l,by omega⟩
              subst hd
              rw[show l+d - l=d from by omega]
              rw[pC]at c1
              rw[show(l+d+1) * n=l * n+(d+1) * n from by rw[← pC,pJ]]at c2
              exact .sliceOpen hr (by omega) (by omega) (by rw[hsn];omega) (by rw[hsn];omega)
          · have:l=0:=by omega
            subst this
            have:h=0:=by omega
            subst this
            simp only[if_pos,pX,Nat.zero_mul,Nat.add_zero]
            exact .sliceEnd hr (by omega) c1 (by rw[hsn];omega)
  ·
    rename_i i o
    cases hx with
    | ptr hr =>
      rename_i rb
      split at hs<;>first | (cases hs;done) | skip
      · rename_i len e hu
        obtain⟨l,h,m,n,e1,e2,e3⟩:=Vo (P:=P) (w:=w) hlo hhi hmx hr hs
        exact⟨_,by simp only[Instr.sliceAt,Sem.run_bind,AL hu,Result.andThen_ok,Instr.sureAddr,Sem.run_pure,e1,BH e2],e3⟩
      · rename_i u hu
        split at hs<;>first | (cases hs;done) | skip
        rename_i len e hu2
        obtain⟨l,h,m,n,e1,e2,e3⟩:=Vo (P:=P) (w:=w) hlo hhi hmx hr hs
        exact⟨_,by simp only[Instr.sliceAt,Instr.slice,Sem.run_bind,AL hu,AL hu2,Result.andThen_ok,asAddr,Sem.run_pure,e1,BH e2],e3⟩
end
end
end Go.Proofs.Ytilhhmkdcoajnaa.Am
