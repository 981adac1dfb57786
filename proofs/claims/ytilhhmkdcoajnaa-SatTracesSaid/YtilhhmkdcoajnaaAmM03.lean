/- Addresses of parts, lengths, conversions, copy, clear; conditions: none. -/
import Derived.Test.YtilhhmkdcoajnaaAmM02
import Derived.LaidEql
import Derived.OrdersIn
import Derived.RangeFuncLeaves
set_option linter.unusedVariables false
set_option linter.unusedSimpArgs false
namespace Go.Proofs.Ytilhhmkdcoajnaa.Am
open Go
noncomputable section
section
variable{P:Program}{ρ ρ1 ρ2:Bp}{s s1 s2:AF}{w w1 w2:World}
theorem Mw{t:TypeId}{x v:AV}{x':Value}{f:Nat}(h:AB P t x f=some v)(hx:Aa ρ x x'):
  ∃v',(Instr.fieldAt t x' f).run P w=.ok v' w∧Aa ρ v v':=by
 unfold AB at h
 split at h<;>first | (cases h;done) | skip
 rename_i i o
 split at h<;>first | (cases h;done) | skip
 rename_i fs hfs
 simp only[qJ]at h
 obtain⟨fd,hfd,n,hn,h⟩:=h
 obtain⟨hz,h⟩:=AJ h
 injection h with h;subst h
 have hn0:n≠0:=by intro e;subst e;cases hz
 cases hx with
 | ptr hr =>
  rename_i rb
  refine⟨.pointer (some ⟨rb.b,rb.off+(o+fd.offset),none⟩),?_,.ptr hr⟩
  simp[Instr.fieldAt,AN hfs,hfd,Instr.sureAddr,fieldPlace,BM hn,hn0,Co,rA]
theorem Mz{t:TypeId}{x ix v:AV}{x' ix':Value}(h:AC P t x ix=some v)(hx:Aa ρ x x')(hi:Aa ρ ix ix'):
  ∃v',(Instr.indexAt t x' ix').run P w=.ok v' w∧Aa ρ v v':=by
 unfold AC at h
 simp only[qJ]at h
 obtain⟨k,hk,h⟩:=h
 obtain⟨kd,rfl⟩:=L8 hk hi
 split at h<;>first | (cases h;done) | skip
 ·split at h<;>first | (cases h;done) | skip
  rename_i i o _ len e he
  simp only[qJ]at h
  obtain⟨n,hn,h⟩:=h
  obtain⟨hlt,h⟩:=AJ h
  injection h with h;subst h
  have hlt':k<len:=by simpa[qj]using hlt
  cases hx with
  | ptr hr =>
   rename_i rb
   have:(0:Int)≤(k:Int)∧(k:Int)<(len:Int):=by omega
   refine⟨.pointer (some ⟨rb.b,rb.off+(o+k * n),none⟩),?_,.ptr hr⟩
   simp[Instr.indexAt,asIntOf,AN he,Instr.sureAddr,this,BM hn,Co,rA]
   omega
 ·split at h<;>first | (cases h;done) | skip
  rename_i i o len cap _ e he
  simp only[qJ]at h
  obtain⟨n,hn,h⟩:=h
  obtain⟨hlt,h⟩:=AJ h
  injection h with h;subst h
  have hlt':k<len:=by simpa[qj]using hlt
  have:(0:Int)≤(k:Int)∧(k:Int)<(len:Int):=by omega
  cases hx with
  | slice hr hl =>
   rename_i c rb
   refine⟨.pointer (some ⟨rb.b,rb.off+(o+k * n),none⟩),?_,.ptr hr⟩
   simp[Instr.indexAt,asIntOf,AN he,Instr.sureAddr,this,BM hn,Co,rA]
   omega
  | sliceOpen hr hs hl h1 h2 =>
   rename_i c rb
   refine⟨.pointer (some ⟨rb.b,rb.off+(o+k * n),none⟩),?_,.ptr hr⟩
   simp[Instr.indexAt,asIntOf,AN he,Instr.sureAddr,this,BM hn,Co,rA]
   omega
  | sliceEnd=>omega
theorem eK      (h : Bu  P ρ s w) {t ty : TypeId} {x v : AV} {x' : Value} {tys : Array TypeId} (ht : tys[0]? = some t) (hs : Aq   P s t x = some v) (hx : Aa   ρ x x') :
    ∃v',(Builtin.len_ tys ty #[x']).run P w=.ok v' w∧Aa ρ v v':=by
  unfold Aq at hs
  split at hs<;>first | (cases hs;done) | skip
  · split at hs<;>first | (cases hs;done) | skip
    rename_i hu
    injection hs with hs;subst hs
    cases hx with
    | str he =>
      rename_i b
      subst he
      refine⟨.int .i64 b.size,by simp[Builtin.len_,ht,AN hu,goInt],?_⟩
      have:(Int.ofNat (Fu b.data.toList).length)=(b.size:Int):=by rw[GD];rfl
      rw[this]
      exact .int _ _
  · split at hs<;>first | (cases hs;done) | skip
    rename_i hu
    injection hs with hs;subst hs
    cases hx<;>exact⟨_,by simp only[Builtin.len_,ht];simp[AN hu,goInt]<;>rfl,.int _ _⟩
  · split at hs<;>first | (cases hs;done) | skip
    rename_i hu
    injection hs with hs;subst hs
    cases hx
    exact⟨_,by simp only[Builtin.len_,ht];simp[AN hu,goInt]<;>rfl,.int _ _⟩
  · split at hs <;> first | (cases hs; done) | skip
    rename_i i _ k e hu
    split at hs<;>first | (cases hs;done) | skip
    rename_i es clock hg
    injection hs with hs;subst hs
    cases hx with
    | map hr =>
      rename_i rb
      obtain⟨es',hh,he⟩:∃es':Array MapEntry,w.heap[rb.b]? = some (.map es' clock)∧Ex ρ es es'.toList:=h.obj i _ rb hg hr
      have hlen:es.length=es'.size:=by
        have:es.length=es'.toList.length:=by
          clear hh hg
          generalize es'.toList=l at he
          induction he with
          | nil=>rfl
          | cons _ _ _ _ ih=>simp[ih]
        simpa using this
      refine⟨.int .i64 es'.size,by simp[Builtin.len_,ht,AN hu,goInt,getObj,hh,Sem.run],?_⟩
      rw[hlen]
      exact .int _ _
theorem dg      (h : Bu  P ρ s w) {t ty : TypeId} {x v : AV} {x' : Value} {tys : Array TypeId} (ht : tys[0]? = some t) (hs : VI   P s t x = some v) (hx : Aa   ρ x x') :
    ∃v',(Builtin.cap_ tys ty #[x']).run P w=.ok v' w∧Aa ρ v v':=by
  unfold VI at hs
  split at hs<;>first | (cases hs;done) | skip
  rename_i a len cap
  split at hs<;>first | (cases hs;done) | skip
  rename_i e hu
  split at hs
  · injection hs with hs;subst hs
    cases hx<;>exact⟨_,by simp only[Builtin.cap_,ht];simp[AN hu,goInt]<;>rfl,.int _ _⟩
  · split at hs<;>first | (cases hs;done) | skip
    rename_i i o
    simp only[qJ]at hs
    obtain⟨n,hn,r,hrow,hs⟩:=hs
    obtain⟨hg,hs⟩:=AJ hs
    injection hs with hs;subst hs
    simp only[Bool.and_eq_true,Bool.not_eq_true',qT]at hg
    obtain⟨⟨⟨g1,g2⟩,g3⟩,g4⟩:=hg
    have g3:=A3 g3
    have hn0 : 0 < n := by rcases rG                 n with e0 | h'; · subst e0; cases g4
                           · exact h'
    cases hx with
    | sliceOpen hr hs hl h1 h2 =>
      rename_i c rb
      have hok:FG ρ w r rb:=h.obj i _ rb (Cd hrow) hr
      have hsz:rb.sz=n:=by rw[← hok.sz];exact g3.symm
      have hN:rb.N=r.n:=hok.tight g1
      rw[hsz,hN]at h1 h2
      have:(r.n - o) / n=c:=by
        have e1:c * n≤r.n - o:=by omega
        have e2:r.n - o<(c+1) * n:=by omega
        exact Nat.le_antisymm (Nat.lt_succ_iff.1 ((Nat.div_lt_iff_lt_mul hn0).2 e2)) ((Nat.le_div_iff_mul_le hn0).2 e1)
      refine⟨.int .i64 c,by simp[Builtin.cap_,ht,AN hu,goInt],?_⟩
      rw[this]
      exact .int _ _
    | sliceEnd hr hs h1 h2 =>
      rename_i rb ad
      have hok:FG ρ w r rb:=h.obj i _ rb (Cd hrow) hr
      have hsz:rb.sz=n:=by rw[← hok.sz];exact g3.symm
      have hN:rb.N=r.n:=hok.tight g1
      rw[hsz,hN]at h2
      have:(r.n - o) / n=0:=Nat.div_eq_of_lt (by omega)
      refine⟨.int .i64 (0:Nat),by simp[Builtin.cap_,ht,AN hu,goInt],?_⟩
      rw[this]
      exact .int _ _
theorem HY        {mx : Bool} : ∀ {l : List AV} {v r : AV} {v' : Value} {l' : List Value}, EO     mx v l = some r → Aa   ρ v v' → AY    ρ l l' →
    ∃r',(l'.foldlM (if mx then Builtin.max2 else Builtin.min2) v').run P w=.ok r' w∧Aa ρ r r'
  | [],v,r,v',l',h,hv,hl=>by
    cases hl
    have:EO mx v []=some v:=by cases v<;>rfl
    rw[this]at h
    injection h with h;subst h
    exact⟨v',by simp,hv⟩
  | a::l,v,r,v',l',h,hv,hl=>by
    cases hl with
    | cons ha hl =>
      unfold EO at h
      split at h<;>first | (cases h;done) | skip
      · rename_i hq;cases hq
      · rename_i k a k2 b l2 hq
        injection hq with h1 h2
        subst h1;subst h2
        obtain⟨hk,hg⟩:=AJ h
        clear h
        have hkk:=Fl hk
        clear hk
        subst hkk
        cases hv;cases ha
        cases mx with
        | true =>
          obtain⟨r',e1,e2⟩:=HY hg (.int _ _) hl
          refine⟨r',?_,e2⟩
          simp only[cond_true,EM]at e1
          simp only[if_true,List.foldlM_cons,Builtin.max2]at e1 ⊢
          simp only[Sem.run_bind,Sem.run_pure,Result.andThen_ok]
          rw[← e1]
          by_cases hc:a<b
          · rw[if_pos (show b > a from hc)];simp[hc]
          · rw[if_neg (show ¬ b > a from hc)];simp[hc]
        | false =>
          obtain⟨r',e1,e2⟩:=HY hg (.int _ _) hl
          refine⟨r',?_,e2⟩
          simp only[cond_false,EM]at e1
          simp only[if_neg Bool.false_ne_true,List.foldlM_cons,Builtin.min2]at e1 ⊢
          simp only[Sem.run_bind,Sem.run_pure,Result.andThen_ok]
          rw[← e1]
          by_cases hc:b<a
          · rw[if_pos hc];simp[hc]
          · rw[if_neg hc];simp[hc]
theorem K3         : ∀ {l : List AV} {l' : List Value} {b : List Nat} {acc : ByteArray}, CN.bytesOf    l = some b → AY    ρ l l' →
    ∃r:ByteArray,((forIn (m:=Sem) l' acc fun c (s:ByteArray)=>match c with
      | .int .u8 n=>pure (ForInStep.yield (s.push (UInt8.ofNat n.toNat)))
      | _=>do
        stuck "bytesToString: byte expected"
        pure (ForInStep.yield s))).run P w=.ok r w∧Fu r.data.toList=Fu acc.data.toList++b
  | [],l',b,acc,h,hl=>by
    cases hl
    simp[CN.bytesOf]at h
    subst h
    exact⟨acc,by simp,by simp⟩
  | a::l,l',b,acc,h,hl=>by
    cases hl with
    | cons ha hl =>
      unfold CN.bytesOf at h
      split at h<;>first | (cases h;done) | skip
      · rename_i hq;cases hq
      · rename_i n l2 hq
        injection hq with h1 h2
        subst h1;subst h2
        obtain⟨hb,hg⟩:=AJ h
        clear h
        simp only[qJ]at hg
        obtain⟨b',hb',hg⟩:=hg
        injection hg with hg;subst hg
        cases ha
        obtain⟨r,e1,e2⟩:=K3 (acc:=acc.push (UInt8.ofNat n)) hb' hl
        refine⟨r,?_,?_⟩
        · rw[← e1]
          simp
        · rw[e2]
          have:n<256:=by simpa[qj]using hb
          simp[ByteArray.push,Nat.mod_eq_of_lt this]
theorem aQ       (h : Bu  P ρ s w) {src dst : TypeId} {x v : AV} {x' : Value} (hs : CN    P s src dst x = some v) (hx : Aa   ρ x x') :
    ∃v',(convert src dst x').run P w=.ok v' w∧Aa ρ v v':=by
  unfold CN at hs
  split at hs<;>first | (cases hs;done) | skip
  · rename_i d k kd n hd hk
    injection hs with hs;subst hs
    cases hx
    exact⟨.int k (k.wrap n),by simp[convert,AN hd,AN hk,Conv.intToInt],by rw[Ei];exact .int _ _⟩
  · rename_i d l hd hk
    injection hs with hs;subst hs
    cases hx with
    | str he=>exact⟨_,by simp[convert,AN hd,AN hk]<;>rfl,.str he⟩
  · rename_i e a len cap hd hk
    split at hs<;>first | (cases hs;done) | skip
    rename_i he
    split at hs
    · injection hs with hs;subst hs
      cases hx<;>exact⟨.string .empty,by simp[convert,AN hd,AN hk,AN he,Conv.bytesToString],.str rfl⟩
    · rename_i i o
      simp only[qJ]at hs
      obtain⟨l,hl,b,hb,hs⟩:=hs
      injection hs with hs;subst hs
      obtain⟨rb,ad,c,hr,hv,hlc,hexact,hopen⟩:=C6 hx
      subst hv
      obtain⟨l',e1,e2,e3⟩:=Ed h hr hl
      have e3':(loadCells ad len).run P w=.ok l'.toArray w:=by
        cases cap with
        | some c0=>obtain⟨_,rfl⟩:=hexact c0 rfl;exact e3 w rfl
        | none =>
          rcases(hopen rfl).2 with⟨rfl,_⟩ | ⟨rfl,_⟩
          · exact e3 w rfl
          · have:l'=[]:=by simpa using e2
            subst this
            exact FR ad w
      obtain⟨r,f1,f2⟩:=K3 (P:=P) (w:=w) (acc:=.empty) hb e1
      refine⟨.string r,?_,.str (by simpa using f2)⟩
      simp only[convert,Sem.run_bind,AN hd,AN hk,AN he,Result.andThen_ok,Conv.bytesToString,e3']
      simp only[List.forIn_toArray]
      exact(congrArg (fun(r:Result ByteArray)=>r.andThen fun a w'=>Sem.run P (pure (Value.string a)) w') f1)
end
section
variable{P:Program}{ρ ρ1 ρ2:Bp}{s s1 s2:AF}{w w1 w2:World}
theorem E6{x:AV}{x':Value}{y i:Nat}(h:BD x y=some i)(hx:Aa ρ x x')(code:BoundsCode):
  i≤y∧(Instr.sliceBound x' y code).run P w=.ok i w:=by
 unfold BD at h
 simp only[qJ]at h
 obtain⟨k,hk,h⟩:=h
 obtain⟨hle,h⟩:=AJ h
 injection h with h;subst h
 obtain⟨kd,rfl⟩:=L8 hk hx
 have hle:k≤y:=by simpa[qT]using hle
 refine⟨hle,?_⟩
 have:(0:Int)≤(k:Int)∧(k:Int)≤(y:Int):=by omega
 simp[Instr.sliceBound,asIntOf,this]
inductive Kx (ρ:Bp):Option AV→Option Value→Prop
 | none:Kx ρ none none
 | some {v:AV} {v':Value} (h:Aa ρ v v'):Kx ρ (some v) (some v')
def og(cap m:Nat):Option AV→Prop
 | some v=>BD v cap=some m
 | none=>m=cap
def oX(mx:Option AV)(len m h:Nat):Option AV→Prop
 | some v=>BD v m=some h
 | none=>h=len∧mx=none
def nI(h l:Nat):Option AV→Prop
 | some v=>BD v h=some l
 | none=>l=0
theorem EH{lo hi mx:Option AV}{lo' hi' mx':Option Value}(hlo:Kx ρ lo lo')(hhi:Kx ρ hi hi')(hmx:Kx ρ mx mx')(isS:Bool){len cap m h l:Nat}
  (h1:og cap m mx) (h2:oX mx len m h hi) (h3:nI h l lo):
  (Instr.sliceBounds isS len cap lo' hi' mx').run P w=.ok (l,h,m) w:=by
 unfold Instr.sliceBounds
 cases hmx with
 | none =>
  have h1:m=cap:=h1
  subst h1
  cases hhi with
  | none =>
   obtain⟨rfl,_⟩:=h2
   cases hlo with
   | none=>have h3:l=0:=h3;subst h3;simp
   | some hv=>obtain⟨_,e⟩:=E6 (P:=P) (w:=w) h3 hv .sliceB;simp[e]
  | some hv =>
   obtain⟨_,e⟩:=E6 (P:=P) (w:=w) h2 hv (if isS then .sliceAcap else .sliceAlen)
   cases hlo with
   | none=>have h3:l=0:=h3;subst h3;simp[e]
   | some hv2=>obtain⟨_,e2⟩:=E6 (P:=P) (w:=w) h3 hv2 .sliceB;simp[e,e2]
 | some hm =>
  obtain⟨_,e0⟩:=E6 (P:=P) (w:=w) h1 hm (if isS then .slice3Acap else .slice3Alen)
  cases hhi with
  | none=>exact absurd h2.2 (by simp)
  | some hv =>
   obtain⟨_,e⟩:=E6 (P:=P) (w:=w) h2 hv .slice3B
   cases hlo with
   | none=>have h3:l=0:=h3;subst h3;simp[e0,e]
   | some hv2=>obtain⟨_,e2⟩:=E6 (P:=P) (w:=w) h3 hv2 .slice3C;simp[e0,e,e2]
theorem KC{x:AV}{y z i:Nat}(h:BD x y=some i)(hle:y≤z):BD x z=some i:=by
 unfold BD at h ⊢
 simp only[qJ]at h ⊢
 obtain⟨k,hk,h⟩:=h
 obtain⟨h1,h2⟩:=AJ h
 refine⟨k,hk,?_⟩
 have:k≤y:=by simpa[qT]using h1
 have:Nat.ble k z=true:=by simp[qT];omega
 simp only[AI,this,cond_true]
 exact h2
theorem DB{x:AV}{y i:Nat}(h:BD x y=some i):i≤y:=by
 unfold BD at h
 simp only[qJ]at h
 obtain⟨k,hk,h⟩:=h
 obtain⟨h1,h2⟩:=AJ h
 injection h2 with h2;subst h2
 simpa[qT]using h1
theorem Ic(s:ByteArray)(o h:Nat):Fu (s.extract o h).data.toList=((Fu s.data.toList).drop o).take (h - o):=by
 simp[Fu,rS,rW,Array.toList_extract]
theorem Ws{lo hi mx:Option AV}{lo' hi' mx':Option Value}(hlo:Kx ρ lo lo')(hhi:Kx ρ hi hi')(hmx:Kx ρ mx mx'){len i o:Nat}{e:TypeId}{v:AV}{rb:RB}(hr:ρ i=some rb)
    (hs:Ar.arr P lo hi mx len e i o=some v):
    ∃l h m n,(Instr.sliceBounds false len len lo' hi' mx').run P w=.ok (l,h,m) w∧BC P e=some n ∧
      Aa ρ v (.slice (some (if m=l then ⟨rb.b,rb.off+o,none⟩else (⟨rb.b,rb.off+o,none⟩:Addr).add (l * n))) (h - l) (m - l)):=by
  unfold Ar.arr at hs
  simp only[qJ]at hs
  obtain⟨n,hn,m,hm,h,hh,l,hl,hs⟩:=hs
  injection hs with hs;subst hs
  have hmh:h≤m:=by
    cases hi with
    | some v=>exact DB hh
    | none =>
      cases mx with
      | none=>simp at hm hh;omega
      | some _=>simp at hh
  have hlh:l≤h:=by
    cases lo with
    | some v=>exact DB hl
    | none=>simp at hl;omega
  refine⟨l,h,m,n,EH hlo hhi hmx false ?_ ?_ ?_,hn,?_⟩
  · cases mx with
    | some v=>exact hm
    | none=>simp at hm;show m=len;omega
  · cases hi with
    | some v=>exact hh
    | none =>
      cases mx with
      | none=>simp at hh;exact⟨by omega,rfl⟩
      | some _=>simp at hh
  · cases lo with
    | some v=>exact hl
    | none=>simp at hl;show l=0;omega
  · by_cases e1 : m = l
    · rw[if_pos e1,show Nat.beq m l=true from by subst e1;simp]
      exact .slice hr (by omega)
    · rw[if_neg e1,show Nat.beq m l=false from by cases hb:Nat.beq m l with | true=>exact absurd (A3 hb) e1 | false=>rfl,Co,cond_false,rA]
      exact .slice hr (by omega)
theorem FA        (hI : Bu  P ρ s w) {t : TypeId} {x v : AV} {x' : Value} {lo hi mx : Option AV} {lo' hi' mx' : Option Value} (hs : Ar     P s t x lo hi mx = some v) (hx : Aa   ρ x x')
    (hlo:Kx ρ lo lo') (hhi:Kx ρ hi hi') (hmx:Kx ρ mx mx'):
    ∃v',(Instr.sliceAt t x' lo' hi' mx').run P w=.ok v' w∧Aa ρ v v':=by
  unfold Ar at hs
  split at hs<;>first | (cases hs;done) | skip
  ·
    rename_i l
    simp only[qJ]at hs
    obtain⟨_,h0,h,hh,o,ho,_,hu,hs⟩:=hs
    injection hs with hs;subst hs
    split at hu<;>first | (cases hu;done) | skip
    rename_i hu'
    cases hmx with
    | some _=>cases h0
    | none =>
      cases hx with
      | str he =>
        rename_i b
        subst he
        have hlen:(Fu b.data.toList).length=b.size:=GD b
        have hb:(Instr.sliceBounds false b.size b.size lo' hi' none).run P w=.ok (o,h,b.size) w:=by
          refine EH hlo hhi .none false rfl ?_ ?_
          · cases hi with
            | some v=>simp only at hh;rw[hlen]at hh;exact hh
            | none=>simp only[Option.some.injEq]at hh;rw[hlen]at hh;exact⟨hh.symm,rfl⟩
          · cases lo with
            | some v=>exact ho
            | none=>simp only[Option.some.injEq]at ho;exact ho.symm
        refine⟨.string (b.extract o h),?_,.str (Ic b o h)⟩
        simp[Instr.sliceAt,Instr.slice,AN hu',hb]
  ·
    rename_i a len cap
    split at hs<;>first | (cases hs;done) | skip
    rename_i e hu
    simp only[qJ]at hs
    obtain⟨n,hn,far,hfar,m,hm,h,hh,l,hl,hs⟩:=hs
    injection hs with hs;subst hs
    have key:∀ (a':Option Addr) (c M:Nat),x'=.slice a' len c→(Instr.sliceBounds true len c lo' hi' mx').run P w=.ok (l,h,M) w →
        (Instr.sliceAt t x' lo' hi' mx').run P w=.ok (.slice (if M=l then a' else a'.map (·.add (l * n))) (h - l) (M - l)) w:=by
      intro a' c M hx1 hb
      subst hx1
      simp[Instr.sliceAt,Instr.slice,AN hu,hb,BM hn]
    have hlh:l≤h:=by
      cases lo with
      | some v=>exact DB hl
      | none=>simp at hl;omega
    have hl':nI h l lo:=by
      cases lo with
      | some v=>exact hl
      | none=>simp at hl;show l=0;omega
    cases a with
    | none =>
      cases hx
      cases mx with
      | none =>
        simp only[Option.some.injEq]at hm hfar
        subst hm
        have hh0:h≤0:=by
          cases hi with
          | some v=>exact DB hh
          | none=>simp at hh;omega
        have hb:(Instr.sliceBounds true 0 0 lo' hi' mx').run P w=.ok (l,h,0) w:=by
          refine EH hlo hhi hmx true rfl ?_ hl'
          cases hi with
          | some v=>exact hh
          | none=>simp at hh;exact⟨by omega,rfl⟩
        refine⟨_,key none 0 0 rfl hb,?_⟩
        have e1:h - l=0:=by omega
        simp only[e1,Option.map_none,Nat.zero_sub,ite_self]
        exact .sliceNil
      | some mv =>
        simp only[Option.some.injEq]at hfar
        subst hfar
        simp only[qJ]at hm
        obtain⟨c,hc,hm⟩:=hm
        obtain⟨_,hm⟩:=AJ hm
        injection hm with hm;subst hm
        have hc0:c≤0:=DB hc
        have hc0:c=0:=by omega
        subst hc0
        have hh0:h≤0:=by
          cases hi with
          | some v=>exact DB hh
          | none=>simp at hh
        have hb:(Instr.sliceBounds true 0 0 lo' hi' mx').run P w=.ok (l,h,0) w:=by
          refine EH hlo hhi hmx true hc ?_ hl'
          cases hi with
          | some v=>exact hh
          | none=>simp at hh
        refine⟨_,key none 0 0 rfl hb,?_⟩
        have e1:h - l=0:=by omega
        simp only[e1,Option.map_none,Nat.zero_sub,ite_self]
        exact .sliceNil
    | some io =>
      obtain⟨i,o⟩:=io
      obtain⟨rb,ad,c,hr,hv,hlc,hexact,hopen⟩:=C6 hx
      have hfc:far≤c∧(cap=none→ad=⟨rb.b,rb.off+o,none⟩∨far=0)∧(cap=none→rb.sz=n):=by
        cases cap with
        | some c0 =>
          obtain⟨rfl,_⟩:=hexact c0 rfl
          simp only[Option.some.injEq]at hfar
          exact⟨by omega,(fun q=>by cases q),fun q=>by cases q⟩
        | none =>
          simp only[qJ]at hfar
          obtain⟨r,hrow,hfar⟩:=hfar
          obtain⟨hg,hfar⟩:=AJ hfar
          injection hfar with hfar
          simp only[Bool.and_eq_true,Bool.not_eq_true',qT]at hg
          obtain⟨⟨g1,g2⟩,g3⟩:=hg
          have g2:=A3 g2
          have hn0:0<n:=by
            rcases rG n with e0 | h'
            · subst e0;cases g3
            · exact h'
          have hok:FG ρ w r rb:=hI.obj i _ rb (Cd hrow) hr
          have hsz:rb.sz=n:=by rw[← hok.sz];exact g2.symm
          have hle:=hok.le
          obtain⟨_,hc⟩:=hopen rfl
          rw[hsz]at hc
          rcases hc with⟨e1,c1,c2⟩ | ⟨e1,e2,c1,c2⟩
          · refine ⟨?_, fun _ => .inl e1, fun _ => hsz⟩
            rw[← hfar]
            exact Nat.lt_succ_iff.1 ((Nat.div_lt_iff_lt_mul hn0).2 (by rw[Nat.succ_eq_add_one];omega))
          · have:far=0:=by rw[← hfar];exact Nat.div_eq_of_lt (by omega)
            exact⟨by omega,fun _=>.inr this,fun _=>hsz⟩
      obtain⟨hfc,hfa,hsn⟩:=hfc
      subst hv
      cases mx with
      | some mv =>
        simp only[qJ]at hm
        obtain⟨c1,hc1,hm⟩:=hm
        obtain⟨hg,hm⟩:=AJ hm
        injection hm with hm;subst hm
        have had:ad=⟨rb.b,rb.off+o,none⟩:=by
          cases cap with
          | some c0=>exact(hexact c0 rfl).2
          | none =>
            rcases hfa rfl with h' | h'
            · exact h'
            · simp[qj]at hg
              omega
        have hh1:h≤c1:=by
          cases hi with
          | some v=>exact DB hh
          | none=>simp at hh
        have hb:(Instr.sliceBounds true len c lo' hi' mx').run P w=.ok (l,h,c1) w:=by
          refine EH hlo hhi hmx true (KC hc1 hfc) ?_ hl'
          cases hi with
          | some v=>exact hh
          | none=>simp at hh
        refine⟨_,key _ c c1 rfl hb,?_⟩
        subst had
        by_cases e1:c1=l
        · rw[if_pos e1]
          simp only[show Nat.beq c1 l=true from by subst e1;simp,cond_true]
          exact .slice hr (by omega)
        · rw[if_neg e1]
          simp only[show Nat.beq c1 l=false from by cases hb:Nat.beq c1 l with | true=>exact absurd (A3 hb) e1 | false=>rfl,Co,cond_false,rA,rl]
          exact .slice hr (by omega)
      | none =>
        simp only[Option.some.injEq]at hm
        subst hm
        cases cap with
        | some c0 =>
          obtain⟨rfl,had⟩:=hexact c0 rfl
          have hh1:h≤c:=by
            cases hi with
            | some v=>exact DB hh
            | none=>simp at hh;omega
          have hb:(Instr.sliceBounds true len c lo' hi' mx').run P w=.ok (l,h,c) w:=by
            refine EH hlo hhi hmx true rfl ?_ hl'
            cases hi with
            | some v=>exact hh
            | none=>simp at hh;exact⟨by omega,rfl⟩
          refine⟨_,key _ c c rfl hb,?_⟩
          subst had
          by_cases e1:c=l
          · rw[if_pos e1]
            simp only[show Nat.beq c l=true from by subst e1;simp,cond_true]
            exact .slice hr (by omega)
          · rw[if_neg e1]
            simp only[show Nat.beq c l=false from by cases hb:Nat.beq c l with | true=>exact absurd (A3 hb) e1 | false=>rfl,Co,cond_false,rA,rl]
            exact .slice hr (by omega)
        | none =>
          obtain⟨hs0,hc⟩:=hopen rfl
          have hsn:=hsn rfl
          have hh1:h≤c:=by
            cases hi with
            | some v=>exact qV (DB hh) hfc
            | none=>simp at hh;omega
          have hb:(Instr.sliceBounds true len c lo' hi' mx').run P w=.ok (l,h,c) w:=by
            refine EH hlo hhi hmx true rfl ?_ hl'
            cases hi with
            | some v=>exact KC hh hfc
            | none=>simp at hh;exact⟨by omega,rfl⟩
          refine⟨_,key _ c c rfl hb,?_⟩
          rw[hsn]at hc hs0
          simp only
          rcases hc with⟨rfl,c1,c2⟩ | ⟨rfl,rfl,c1,c2⟩
          · by_cases e1 : c = l
            · subst e1
              rw[if_pos rfl,show h - c=0 from by omega,rJ]
              rw[qt,Nat.one_mul]at c2
              exact .sliceEnd hr (by omega) (by omega) (by rw[hsn];omega)
            · rw[if_neg e1]
              simp only[rl,Co,rA]
              obtain⟨d,hd⟩:∃d,c=l+d:=⟨c - l,by omega⟩
              subst hd
              rw[show l+d - l=d from by omega]
              rw[qt]at c1
              rw[show(l+d+1) * n=l * n+(d+1) * n from by rw[← qt,rA]]at c2
              exact .sliceOpen hr (by omega) (by omega) (by rw[hsn];omega) (by rw[hsn];omega)
          · have:l=0:=by omega
            subst this
            have:h=0:=by omega
            subst this
            simp only[if_pos,rJ,Nat.zero_mul,rN]
            exact .sliceEnd hr (by omega) c1 (by rw[hsn];omega)
  ·
    rename_i i o
    cases hx with
    | ptr hr =>
      rename_i rb
      split at hs<;>first | (cases hs;done) | skip
      · rename_i len e hu
        obtain⟨l,h,m,n,e1,e2,e3⟩:=Ws (P:=P) (w:=w) hlo hhi hmx hr hs
        exact⟨_,by simp only[Instr.sliceAt,Sem.run_bind,AN hu,Result.andThen_ok,Instr.sureAddr,Sem.run_pure,e1,BM e2],e3⟩
      · rename_i u hu
        split at hs<;>first | (cases hs;done) | skip
        rename_i len e hu2
        obtain⟨l,h,m,n,e1,e2,e3⟩:=Ws (P:=P) (w:=w) hlo hhi hmx hr hs
        exact⟨_,by simp only[Instr.sliceAt,Instr.slice,Sem.run_bind,AN hu,AN hu2,Result.andThen_ok,asAddr,Sem.run_pure,e1,BM e2],e3⟩
end
section
variable{P:Program}{ρ ρ1 ρ2:Bp}{s s1 s2:AF}{w w1 w2:World}
theorem Mx(h:Bu P ρ s w){i o n size len:Nat}{cap:Option Nat}{x':Value}{l:List AV}(hx:Aa ρ (.slice (some (i,o)) len cap) x')(hn:n≤len)(hl:loadN s i o (n * size)=some l):
  ∃l':List Value,AY ρ l l'∧l'.length=n * size∧∀w1:World,w1.heap=w.heap→(Builtin.firstCells size n x').run P w1=.ok l'.toArray w1:=by
 obtain⟨rb,ad,c,hr,hv,hlc,hexact,hopen⟩:=C6 hx
 subst hv
 obtain⟨l',e1,e2,e3⟩:=Ed h hr hl
 refine⟨l',e1,e2,fun w1 hw1=>?_⟩
 cases cap with
 | some c0=>obtain⟨_,rfl⟩:=hexact c0 rfl;exact e3 w1 hw1
 | none =>
  rcases(hopen rfl).2 with⟨rfl,_⟩ | ⟨rfl,_⟩
  ·exact e3 w1 hw1
  ·have h0:n=0:=by omega
   subst h0
   have:l'=[]:=by simpa using e2
   subst this
   simp[Builtin.firstCells,FR]
theorem I5(h:Bu P ρ s w){i o len size n:Nat}{cap:Option Nat}{ad:Addr}{c:Nat}{vs:List AV}{vs':List Value}(hx:Aa ρ (.slice (some (i,o)) len cap) (.slice (some ad) len c))
  (hv:AY ρ vs vs') (hlen:len=0→vs=[]) (hs:CK s i o vs=some s1):∃w1,(storeCells ad vs').run P w=.ok () w1∧Bu P ρ s1 w1∧Fr ρ s w ρ s1 w1:=by
 obtain⟨rb,ad0,c0,hr,hv0,hlc,hexact,hopen⟩:=C6 hx
 injection hv0 with q1 q2 q3
 injection q1 with q1
 subst q1;subst q3
 have exq:ad=⟨rb.b,rb.off+o,none⟩→∃w1,(storeCells ad vs').run P w=.ok () w1∧Bu P ρ s1 w1∧Fr ρ s w ρ s1 w1:=by
  intro e;subst e;exact Hc h hr hs hv
 cases cap with
 | some c0=>exact exq (hexact c0 rfl).2
 | none =>
  rcases(hopen rfl).2 with⟨e,_⟩ | ⟨e,_⟩
  ·exact exq e
  ·have:=hlen e
   subst this
   cases hv
   simp[CK]at hs
   subst hs
   exact⟨w,rfl,h,Fr.refl _ _ _⟩
theorem aU       (h : Bu  P ρ s w) {tys : Array TypeId} {ty : TypeId} {args : List AV} {v : AV} {args' : Array Value} (hs : aT    P s tys.toList args = some (v, s1)) (ha : AY    ρ args args'.toList) :
    UH P ρ s w (Builtin.copy_ tys ty args') v s1:=by
  obtain⟨tyl⟩:=tys
  obtain⟨argl⟩:=args'
  simp only at hs ha
  unfold aT at hs
  split at hs<;>first | (cases hs;done) | skip
  rename_i dt tl a dl cap x
  cases ha with
  | cons ha hb =>
  rename_i a' l1
  cases hb with
  | cons hx hnil =>
  rename_i x' l2
  cases hnil
  split at hs<;>first | (cases hs;done) | skip
  rename_i e hu
  simp only[qJ]at hs
  obtain⟨size,hsize,sl,hsl,cells,hcells,s',hst,hs⟩:=hs
  injection hs with hs
  injection hs with hs1 hs2
  subst hs1;subst hs2
  have hmin : (bif Nat.ble sl dl then sl else dl) = Nat.min sl dl := by
    cases hb:Nat.ble sl dl with
    | true => have : sl ≤ dl := by simpa [qT]         using hb
              simp only[cond_true];exact(rX this).symm
    | false => have : dl ≤ sl := by
                 rcases Nat.le_total sl dl with h' | h'
                 · rw[Nat.ble_eq_true_of_le h']at hb;cases hb
                 · exact h'
               simp only[cond_false];exact(Nat.min_eq_right this).symm
  rw[hmin]at hcells ⊢
  have hlen:(Builtin.lenOf x').run P w=.ok sl w:=by
    split at hsl<;>first | (cases hsl;done) | skip
    · injection hsl with hsl;subst hsl
      cases hx<;>rfl
    · injection hsl with hsl;subst hsl
      cases hx with
      | str he=>subst he;rw[GD];rfl
  have hsrc:∃l':List Value,AY ρ cells l'∧(Builtin.firstCells size (Nat.min sl dl) x').run P w=.ok l'.toArray w∧(Nat.min sl dl=0→cells=[]):=by
    split at hcells<;>first | (cases hcells;done) | skip
    · injection hcells with hcells;subst hcells
      cases hx
      exact⟨[],.nil,rfl,fun _=>rfl⟩
    · simp only [Option.some.injEq] at hsl
      subst hsl
      obtain⟨l',e1,e2,e3⟩:=Mx h hx (Nat.min_le_left _ _) hcells
      refine⟨l',e1,e3 w rfl,fun h0=>?_⟩
      have:=e1.length
      rw[e2,show min _ dl=0 from h0,Nat.zero_mul]at this
      exact List.eq_nil_of_length_eq_zero this
    · rename_i l
      obtain⟨hg,hcells⟩:=AJ hcells
      injection hcells with hcells;subst hcells
      cases hx with
      | str he =>
        rename_i b
        subst he
        refine⟨((b.extract 0 (Nat.min sl dl)).data.map fun b=>Value.int .u8 b.toNat).toList,?_,by simp only[Builtin.firstCells,Array.toArray_toList,Sem.run_pure],fun h0=>by rw[h0];rfl⟩
        have hk:∀l:List UInt8,AY ρ ((Fu l).map fun b=>AV.int .u8 (.ofNat b)) (l.map fun b=>Value.int .u8 b.toNat):=by
          intro l
          induction l with
          | nil=>exact .nil
          | cons a l ih=>exact .cons (.int _ _) ih
        have:=hk (b.extract 0 (Nat.min sl dl)).data.toList
        rw[Ic]at this
        simpa using this
  obtain⟨l',e1,e2,e3⟩:=hsrc
  have hrun:∀ (base:Option Addr) (c:Nat),a'=.slice base dl c→∀w1,(match base with | some ad=>storeCells ad l' | none=>pure ()).run P w=.ok () w1 →
      (Builtin.copy_ ⟨dt::tl⟩ ty ⟨[a',x']⟩).run P w=.ok (.int .i64 (Nat.min sl dl:Nat)) w1:=by
    intro base c hb w1 hw1
    subst hb
    cases base with
    | none =>
      simp only[Sem.run_pure]at hw1
      injection hw1 with _ hw1
      subst hw1
      simp[Builtin.copy_,AN hu,hlen,BM hsize,e2,goInt]
    | some ad =>
      simp only at hw1
      simp[Builtin.copy_,AN hu,hlen,BM hsize,e2,hw1,goInt]
  cases a with
  | none =>
    simp only[Option.some.injEq]at hst
    subst hst
    cases ha
    exact⟨_,_,ρ,hrun none 0 rfl w rfl,.int _ _,h,Fr.refl _ _ _⟩
  | some io =>
    obtain⟨i,o⟩:=io
    simp only at hst
    obtain⟨rb,ad,c,hr,hv,_⟩:=C6 ha
    subst hv
    obtain⟨w1,k1,k2,k3⟩:=I5 (size:=0) (n:=0) h ha e1 (fun h0=>e3 (by subst h0;exact Nat.min_zero _)) hst
    exact⟨_,w1,ρ,hrun (some ad) c rfl w1 k1,.int _ _,k2,k3⟩
theorem Nq(ρ:Bp){t:TypeId}{z:AV}(h:CY P t=some z):∃v,(∀w,(zeroValue t).run P w=.ok v w)∧Aa ρ z v:=by
  unfold CY at h
  split at h
  · split at h
    · rename_i i hi _ v hv
      exact⟨v,fun w=>by simp[zeroValue,typeInfo,hi,hv],CE ρ h⟩
    · cases h
  · cases h
theorem VK(h:Bu P ρ s w){tys:Array TypeId}{ty:TypeId}{args:List AV}{v:AV}{args':Array Value}(hs:Dj P s tys.toList args=some (v,s1))(ha:AY ρ args args'.toList):
  UH P ρ s w (Builtin.clear_ tys ty args') v s1:=by
 obtain⟨tyl⟩:=tys
 obtain⟨argl⟩:=args'
 simp only at hs ha
 unfold Dj at hs
 split at hs<;>first | (cases hs;done) | skip
 rename_i t tl x
 cases ha with
 | cons hx hb =>
 rename_i x' l1
 cases hb
 split at hs<;>first | (cases hs;done) | skip
 ·rename_i e n cap hu
  injection hs with hs
  injection hs with hs1 hs2
  subst hs1;subst hs2
  cases hx
  exact⟨_,w,ρ,by simp[Builtin.clear_,AN hu];rfl,Ds ρ,h,Fr.refl _ _ _⟩
 ·have hu:=‹P.underlying t=some (TypeDesc.slice _)›
  injection hs with hs
  injection hs with hs1 hs2
  subst hs1;subst hs2
  cases hx<;>exact⟨_,w,ρ,by simp[Builtin.clear_,AN hu];rfl,Ds ρ,h,Fr.refl _ _ _⟩
 ·rename_i e i o n cap hn hu
  simp only[qJ]at hs
  obtain⟨z,hz,s',hst,hs⟩:=hs
  injection hs with hs
  injection hs with hs1 hs2
  subst hs1;subst hs2
  obtain⟨z',hz1,hz2⟩:=Nq ρ hz
  obtain⟨rb,ad,c,hr,hv,_⟩:=C6 hx
  subst hv
  have hl:=hz2.cells.length
  obtain⟨w1,k1,k2,k3⟩:=I5 (size:=0) (n:=0) h hx (Ho hz2 rfl (by simpa using hl.symm) n) (fun h0=>by subst h0;rfl) hst
  refine⟨_,w1,ρ,?_,Ds ρ,k2,k3⟩
  cases n with
  | zero=>exact absurd rfl hn
  | succ n=>simp[Builtin.clear_,AN hu,hz1,k1,undef]
theorem Dc{t:TypeId}{k:AV}{k':Value}(h:CG P t k=true)(hk:Aa ρ k k')(e:Bool)(n:Nat):(Instr.checkKey e (n+1) t k').run P w=.ok () w:=by
 unfold CG at h
 split at h<;>first | (cases h;done) | skip
 ·split at h<;>first | (cases h;done) | skip
  rename_i hu
  cases hk
  simp[Instr.checkKey,AN hu]
 ·split at h<;>first | (cases h;done) | skip
  rename_i hu
  cases hk
  simp[Instr.checkKey,AN hu]
theorem D7{t:TypeId}{k:AV}(h:CG P t k=true):∃d,P.underlying t=some d∧((∃kd kd' n,d=.int kd'∧k=.int kd n)∨(d=.string∧∃l,k=.str l)):=by
 unfold CG at h
 split at h<;>first | (cases h;done) | skip
 ·split at h<;>first | (cases h;done) | skip
  rename_i hu
  exact⟨_,hu,.inl ⟨_,_,_,rfl,rfl⟩⟩
 ·split at h<;>first | (cases h;done) | skip
  rename_i hu
  exact⟨_,hu,.inr ⟨rfl,_,rfl⟩⟩
theorem bB       {t : TypeId} {k k0 : AV} {k' k0' : Value} {b : Bool} (hsk : CG        P t k = true) (hb : MA    k k0 = some b) (hk : Aa   ρ k k') (hk0 : Aa   ρ k0 k0') :
    ∀d,P.underlying t=some d→Instr.sameNow d k' k0'=some b∧(b=true→k0'=k'):=by
  intro d hd
  obtain⟨d',hd',hc⟩:=D7 hsk
  rw[hd]at hd'
  injection hd' with hd'
  subst hd'
  rcases hc with⟨kd,kd',n,rfl,rfl⟩ | ⟨rfl,l,rfl⟩
  · cases k0<;>first | (simp[MA]at hb;done) | skip
    rename_i kd2 n2
    simp only[MA]at hb
    obtain⟨hg,hb2⟩:=AJ hb
    clear hb
    injection hb2 with hb2
    have:=Fl hg
    clear hg
    subst this
    cases hk;cases hk0
    rw[Fs]at hb2
    subst hb2
    refine⟨by simp[Instr.sameNow],fun e=>?_⟩
    have:n=n2:=by simpa using e
    rw[this]
  · cases k0<;>first | (simp[MA]at hb;done) | skip
    rename_i l2
    simp only[MA,Option.some.injEq]at hb
    cases hk with
    | str h1 =>
    cases hk0 with
    | str h2 =>
      rename_i s1 s2
      subst h1;subst h2
      rw[IA]at hb
      have hq:(s1.data == s2.data)=b:=by
        rw[← hb,Bool.eq_iff_iff,beq_iff_eq,beq_iff_eq]
        exact⟨fun e=>by rw[e],fun e=>Array.ext' e⟩
      refine⟨congrArg some (show(s1 == s2)=b from hq),fun e=>?_⟩
      subst e
      have:s1.data=s2.data:=by simpa using hq
      cases s1;cases s2
      simp only at this
      rw[this]
theorem Lt       {t : TypeId} {k : AV} {k' : Value} {d : TypeDesc} (hd : P.underlying t = some d) (hsk : CG        P t k = true) (hk : Aa   ρ k k') :
    ∀ {es:List (AV×AV×Nat)} {es':List MapEntry} {i:Nat} {r:Option (Nat×AV×Nat)},D2 k es i=some r→Ex ρ es es' →
      match r with
      | none=>Instr.findNow d k' es' i=some none
      | some (j,v,b)=>∃v' e' m,Instr.findNow d k' es' i=some (some (j,v'))∧Aa ρ v v'∧j=i+m∧es'[m]? = some e'∧e'.key=k'∧e'.val=v':=by
  intro es es' i r h he
  induction he generalizing i r with
  | nil=>simp[D2]at h;subst h;rfl
  | cons hk0 hv hb hs ih =>
    rename_i k0 v0 b0 e0 l l'
    simp only[D2,qJ]at h
    obtain⟨b,hb',h⟩:=h
    obtain⟨h1,h2⟩:=bB hsk hb' hk hk0 d hd
    cases b with
    | true =>
      simp only[Option.some.injEq]at h
      subst h
      exact⟨e0.val,e0,0,by simp[Instr.findNow,h1],hv,rfl,rfl,h2 rfl,rfl⟩
    | false =>
      simp only at h
      have:=ih h
      cases r with
      | none=>simpa[Instr.findNow,h1]using this
      | some q =>
        obtain⟨j,v,b⟩:=q
        obtain⟨v',e',m,q1,q2,q3,q4,q5,q6⟩:=this
        exact⟨v',e',m+1,by simp[Instr.findNow,h1,q1],q2,by omega,by simpa using q4,q5,q6⟩
theorem Dr{t:TypeId}{k':Value}{d:TypeDesc}{es':List MapEntry}{r:Option (Nat×Value)}(hd:P.underlying t=some d)(h:Instr.findNow d k' es' 0=some r):
  (Instr.findKey t k' es').run P w=.ok r w:=by simp[Instr.findKey,AN hd,h]
theorem FX{b:Nat}{es:Array MapEntry}{c:Nat}(h:w.heap[b]? = some (.map es c)):(getObj b).run P w=.ok (.map es c) w:=by simp[getObj,Sem.run,h]
theorem GW{b:Nat}{es:Array MapEntry}{c:Nat}(o:Obj)(h:w.heap[b]? = some (.map es c)):(Go.setObj b o).run P w=.ok () { w with heap:=w.heap.setIfInBounds b o }:=by simp[Go.setObj,Sem.run,h]
theorem Tf         (h : Bu  P ρ s w) {t : TypeId} {m k v : AV} {m' k' : Value} {ok : Bool} (hs : DF      P s t m k ok = some v) (hm : Aa   ρ m m') (hk : Aa   ρ k k') :
    ∃v',(Instr.lookup t m' k' ok).run P w=.ok v' w∧Aa ρ v v':=by
  unfold DF at hs
  split at hs<;>first | (cases hs;done) | skip
  rename_i kt et hu
  obtain⟨hsk,hg⟩:=AJ hs
  clear hs
  simp only[qJ]at hg
  obtain⟨es,hes,r,hf,p,hp,hg⟩:=hg
  injection hg with hg
  obtain⟨d,hd,_⟩:=D7 hsk
  have hent:∃es':Array MapEntry,Ex ρ es es'.toList∧(∀f:Array MapEntry→Sem Value,(do
      let es ← match m' with
        | .map none=>pure #[]
        | .map (some r)=>do
          let .map es _ ← getObj r | stuck "Lookup: map expected"
          pure es
        | _ => stuck "Lookup: map expected"
      f es:Sem Value).run P w=(f es').run P w):=by
    split at hes<;>first | (cases hes;done) | skip
    · injection hes with hes;subst hes
      cases hm
      exact⟨#[],.nil,fun f=>by simp⟩
    · split at hes<;>first | (cases hes;done) | skip
      rename_i i _ es0 clock hget
      injection hes with hes;subst hes
      cases hm with
      | map hr =>
        rename_i rb
        obtain⟨es',e1,e2⟩:∃es':Array MapEntry,w.heap[rb.b]? = some (Obj.map es' clock)∧Ex ρ es0 es'.toList:=h.obj i _ rb hget hr
        exact⟨es',e2,fun f=>by simp[FX e1]⟩
  obtain⟨es',he,hrun⟩:=hent
  have hck:=fun(w:World)=>Dc (w:=w) hsk hk es'.isEmpty 9999
  have hfk:=Lt hd hsk hk hf he
  have main:∃v':Value,Aa ρ p.1 v'∧(Instr.lookup t m' k' ok).run P w=.ok (if ok then .tuple #[v',.bool p.2]else v') w:=by
    unfold Instr.lookup
    rw[Sem.run_bind,AN hu]
    simp only[Result.andThen_ok]
    cases r with
    | none =>
      simp only at hfk
      simp only[qJ]at hp
      obtain⟨z,hz,hp⟩:=hp
      injection hp with hp;subst hp
      obtain⟨z',hz1,hz2⟩:=Nq ρ hz
      refine⟨z',hz2,?_⟩
      refine(hrun _).trans ?_
      simp[hck w,Dr hd hfk,hz1]
    | some q =>
      obtain⟨j,v0,b⟩:=q
      simp only[Option.some.injEq]at hp
      subst hp
      obtain⟨v',e',m,q1,q2,_⟩:=hfk
      refine⟨v',q2,?_⟩
      refine(hrun _).trans ?_
      simp[hck w,Dr hd q1]
  obtain⟨v',m1,m2⟩:=main
  refine⟨_,m2,?_⟩
  subst hg
  cases ok with
  | true=>exact .tuple (.cons m1 (.cons (.bool _) .nil))
  | false=>exact m1
theorem Ex.setNth{es:List (AV×AV×Nat)}{es':List MapEntry}(h:Ex ρ es es'){v:AV}{k' v':Value}(hv:Aa ρ v v'):∀ {m:Nat}{e':MapEntry},es'[m]? = some e'→e'.key=k' →
  Ex ρ (setNth es m v) (es'.modify m fun e=>{ e with key:=k',val:=v' }):=by
 induction h with
 | nil=>intro m e' h1;simp at h1
 | cons hk0 hv0 hb0 hs ih =>
  intro m e' h1 h2
  cases m with
  | zero =>
   simp at h1
   subst h1
   subst h2
   exact .cons hk0 hv hb0 hs
  | succ m=>exact .cons hk0 hv0 hb0 (ih (by simpa using h1) h2)
theorem Ex.delNth{es:List (AV×AV×Nat)}{es':List MapEntry}(h:Ex ρ es es'):∀ (m:Nat),Ex ρ (delNth es m) (es'.eraseIdx m):=by
 induction h with
 | nil=>intro m;simp[Go.Proofs.Ytilhhmkdcoajnaa.Am.delNth];exact .nil
 | cons hk0 hv0 hb0 hs ih =>
  intro m
  cases m with
  | zero=>exact hs
  | succ m=>exact .cons hk0 hv0 hb0 (ih m)
theorem Ex.append{es fs:List (AV×AV×Nat)}{es' fs':List MapEntry}(h:Ex ρ es es')(k:Ex ρ fs fs'):Ex ρ (es++fs) (es'++fs'):=by
 induction h with
 | nil=>exact k
 | cons hk0 hv0 hb0 hs ih=>exact .cons hk0 hv0 hb0 ih
theorem bz       {k : AV} {k' : Value} {t : TypeId} (hsk : CG        P t k = true) (hk : Aa   ρ k k') : (Instr.keyThatStays k' k').run P w = .ok k' w := by
  have:Instr.sameBits 10000 k' k'=true:=by
    unfold CG at hsk
    split at hsk<;>first | (cases hsk;done) | skip
    · cases hk;simp[Instr.sameBits]
    · cases hk with
      | str _ =>
        rename_i s _
        show(s.data == s.data)=true
        simp
  simp[Instr.keyThatStays,this]
theorem J2(h:Bu P ρ s w){i clock clock1:Nat}{es es1:List (AV×AV×Nat)}{es' es1':Array MapEntry}{rb:RB}(hg:s.heap.get i=some (.map es clock))(hr:ρ i=some rb)
  (hb:w.heap[rb.b]? = some (.map es' clock)) (he:Ex ρ es1 es1'.toList):
  Bu P ρ (setObj s i (.map es1 clock1)) { w with heap:=w.heap.setIfInBounds rb.b (.map es1' clock1) } ∧
   Fr ρ s w ρ (setObj s i (.map es1 clock1)) { w with heap:=w.heap.setIfInBounds rb.b (.map es1' clock1) }:=by
 have hlt:=h.lt i rb hr
 exact h.set hg hr rfl (fun p hp=>by cases hp) rfl (by simp) (fun b hne=>by simp[Array.getElem?_setIfInBounds_ne (Ne.symm hne)]) rfl rfl rfl
  ⟨es1',by simp[hlt],he⟩
theorem Mr         (h : Bu  P ρ s w) {t : TypeId} {m k v : AV} {m' k' v' : Value} (hs : EX      P s t m k v = some s1) (hm : Aa   ρ m m') (hk : Aa   ρ k k') (hv : Aa   ρ v v') :
    ∃w1,(Instr.mapUpdate t m' k' v').run P w=.ok () w1∧Bu P ρ s1 w1∧Fr ρ s w ρ s1 w1:=by
  unfold EX at hs
  split at hs<;>first | (cases hs;done) | skip
  rename_i kt et i hu
  obtain⟨hsk,hg⟩:=AJ hs
  clear hs
  split at hg<;>first | (cases hg;done) | skip
  rename_i es clock hget
  simp only[qJ]at hg
  obtain⟨r,hf,hg⟩:=hg
  obtain⟨d,hd,_⟩:=D7 hsk
  cases hm with
  | map hr =>
    rename_i rb
    obtain⟨es',e1,e2⟩:∃es':Array MapEntry,w.heap[rb.b]? = some (Obj.map es' clock)∧Ex ρ es es'.toList:=h.obj i _ rb hget hr
    have hfk:=Lt hd hsk hk hf e2
    have hck:=fun(w:World)=>Dc (w:=w) hsk hk false 9999
    split at hg
    · rename_i j v0 b0
      injection hg with hg
      subst hg
      obtain⟨v0',e',m,q1,q2,q3,q4,q5,q6⟩:=hfk
      have hjm:j=m:=by omega
      subst hjm
      have hes1:=e2.setNth hv q4 q5
      have hr1:=J2 (clock1:=clock) (es1':=es'.modify j fun e=>{ e with key:=k',val:=v' }) h hget hr e1 (by rw[Array.toList_modify];exact hes1)
      refine⟨_,?_,hr1.1,hr1.2⟩
      have hkey:((es'[j]?.map (·.key)).getD k')=k':=by
        rw[Array.getElem?_toList]at q4
        simp[q4,q5]
      simp[Instr.mapUpdate,AN hu,FX e1,hck w,Dr hd q1,hkey,bz hsk hk,GW _ e1]
    · injection hg with hg
      subst hg
      have hr1:=J2 (clock1:=clock+1) (es1':=es'.push { key:=k',val:=v',born:=clock }) h hget hr e1 (by
        rw[Array.toList_push]
        exact e2.append (.cons hk hv rfl .nil))
      refine⟨_,?_,hr1.1,hr1.2⟩
      simp[Instr.mapUpdate,AN hu,FX e1,hck w,Dr hd hfk,GW _ e1]
theorem TM         (h : Bu  P ρ s w) {t ty : TypeId} {m k : AV} {m' k' : Value} {tys : Array TypeId} (ht : tys[0]? = some t) (hs : Kk      P s t m k = some s1) (hm : Aa   ρ m m') (hk : Aa   ρ k k') :
    ∃w1,(Builtin.delete_ tys ty #[m',k']).run P w=.ok undef w1∧Bu P ρ s1 w1∧Fr ρ s w ρ s1 w1:=by
  unfold Kk at hs
  split at hs<;>first | (cases hs;done) | skip
  rename_i kt et hu
  obtain⟨hsk,hg⟩:=AJ hs
  clear hs
  obtain⟨d,hd,_⟩:=D7 hsk
  split at hg<;>first | (cases hg;done) | skip
  · injection hg with hg;subst hg
    cases hm
    exact⟨w,by simp[Builtin.delete_,ht,AN hu,Dc hsk hk,undef],h,Fr.refl _ _ _⟩
  · rename_i i
    split at hg<;>first | (cases hg;done) | skip
    rename_i es clock hget
    simp only[qJ]at hg
    obtain⟨r,hf,hg⟩:=hg
    cases hm with
    | map hr =>
      rename_i rb
      obtain⟨es',e1,e2⟩:∃es':Array MapEntry,w.heap[rb.b]? = some (Obj.map es' clock)∧Ex ρ es es'.toList:=h.obj i _ rb hget hr
      have hfk:=Lt hd hsk hk hf e2
      have hck:=fun(w:World)=>Dc (w:=w) hsk hk es'.isEmpty 9999
      split at hg
      · rename_i j v0 b0
        injection hg with hg
        subst hg
        obtain⟨v0',e',m,q1,q2,q3,q4,q5,q6⟩:=hfk
        have hjm:j=m:=by omega
        subst hjm
        have hr1:=J2 (clock1:=clock) (es1':=es'.eraseIdxIfInBounds j) h hget hr e1 (by
          rw[Array.toList_eraseIdxIfInBounds]
          exact e2.delNth j)
        refine⟨_,?_,hr1.1,hr1.2⟩
        simp[Builtin.delete_,ht,AN hu,FX e1,hck w,Dr hd q1,GW _ e1,undef]
      · injection hg with hg
        subst hg
        have hlt:=h.lt i rb hr
        have hsame:w.heap.setIfInBounds rb.b (.map es' clock)=w.heap:=by
          apply Array.ext (by simp)
          intro j hj1 hj2
          by_cases e:rb.b=j
          · subst e
            rw[Array.getElem?_eq_getElem hlt]at e1
            injection e1 with e1
            simp[e1]
          · rw[Array.getElem_setIfInBounds_ne hj2 e]
        refine⟨w,?_,h,Fr.refl _ _ _⟩
        simp[Builtin.delete_,ht,AN hu,FX e1,hck w,Dr hd hfk,GW _ e1,undef,hsame]
end
def J3(sh:Sh)(aS:List AV)(s:AF):Option (AV×AF):=
 match sh with
 | .p1 f=>(match aS with | a::_=>EE s (f a) | []=>none)
 | .p2 f=>(match aS with | a::b::_=>EE s (f a b) | _=>none)
 | .p f=>EE s (f aS)
 | .r1 f=>(match aS with | a::_=>EE s (f s a) | []=>none)
 | .r f=>EE s (f s aS)
 | .mk f=>QD s (f aS)
 | .e f=>f s aS
 | .call _ | .callv=>none
section
variable{P:Program}{ρ ρ1 ρ2:Bp}{s s1 s2:AF}{w w1 w2:World}
theorem CU{x:Option AV}{v:AV}(h:EE s x=some (v,s1)):x=some v∧s1=s:=by
 cases x with
 | none=>cases h
 | some u=>injection h with h;injection h with h1 h2;exact⟨by rw[h1],h2.symm⟩
theorem Ti{x:Option (C0×Made)}{v:AV}(h:QD s x=some (v,s1)):∃o m,x=some (o,m)∧v=m.val s.next∧s1=newObj s o:=by
 cases x with
 | none=>cases h
 | some u=>injection h with h;injection h with h1 h2;exact⟨u.1,u.2,rfl,h1.symm,h2.symm⟩
theorem Ga{x:Option AF}{v:AV}(h:AU x=some (v,s1)):x=some s1∧v=BJ:=by
 cases x with
 | none=>cases h
 | some u=>injection h with h;injection h with h1 h2;exact⟨by rw[h2],h1.symm⟩
theorem H6{f:AV→Option AV}{a v:AV}(h:J3 (.p1 f) [a] s=some (v,s1)):f a=some v∧s1=s:=CU h
theorem Tu{f:AV→AV→Option AV}{a b v:AV}(h:J3 (.p2 f) [a,b] s=some (v,s1)):f a b=some v∧s1=s:=CU h
theorem Nr{f:List AV→Option AV}{aS:List AV}{v:AV}(h:J3 (.p f) aS s=some (v,s1)):f aS=some v∧s1=s:=CU h
theorem Tv{f:AF→AV→Option AV}{a v:AV}(h:J3 (.r1 f) [a] s=some (v,s1)):f s a=some v∧s1=s:=CU h
theorem Ns{f:AF→List AV→Option AV}{aS:List AV}{v:AV}(h:J3 (.r f) aS s=some (v,s1)):f s aS=some v∧s1=s:=CU h
theorem J4{f:List AV→Option (C0×Made)}{aS:List AV}{v:AV}(h:J3 (.mk f) aS s=some (v,s1)):∃o m,f aS=some (o,m)∧v=m.val s.next∧s1=newObj s o:=Ti h
theorem cD{f:AF→List AV→Option (AV×AF)}{aS:List AV}{v:AV}(h:J3 (.e f) aS s=some (v,s1)):f s aS=some (v,s1):=h
def Ce(P:Program)(ρ:Bp)(s:AF)(w:World)(sem:Sem Next)(v:AV)(s':AF):Prop:=
 ∃v' w' ρ',(sem.run P w=.ok (.value v') w'∨(sem.run P w=.ok .skip w'∧v'=undef))∧Aa ρ' v v'∧Bu P ρ' s' w'∧Fr ρ s w ρ' s' w'
theorem Ce.pure(h:Bu P ρ s w){sem:Sem Value}{v:AV}(hr:∃v',sem.run P w=.ok v' w∧Aa ρ v v'):Ce P ρ s w (do Pure.pure (Next.value (← sem))) v s:=by
 obtain⟨v',h1,h2⟩:=hr
 exact⟨v',w,ρ,.inl (by simp[h1]),h2,h,Fr.refl _ _ _⟩
theorem Ce.eff{sem:Sem Value}{v:AV}(hr:UH P ρ s w sem v s1):Ce P ρ s w (do Pure.pure (Next.value (← sem))) v s1:=by
 obtain⟨v',w',ρ',h1,h2,h3,h4⟩:=hr
 exact⟨v',w',ρ',.inl (by simp[h1]),h2,h3,h4⟩
theorem Ce.new{sem:Sem Value}{o:C0}{m:Made}(hr:M8 P ρ s w sem o m):Ce P ρ s w (do Pure.pure (Next.value (← sem))) (m.val s.next) (newObj s o):=by
 obtain⟨v',w',ρ',h1,h2,h3,h4⟩:=hr
 exact⟨v',w',ρ',.inl (by simp[h1]),h2,h3,h4⟩
theorem Ce.unit{sem:Sem Unit}(hr:∃w',sem.run P w=.ok () w'∧Bu P ρ s1 w'∧Fr ρ s w ρ s1 w'):Ce P ρ s w (do sem;Pure.pure Next.skip) BJ s1:=by
 obtain⟨w',h1,h2,h3⟩:=hr
 exact⟨undef,w',ρ,.inr ⟨by simp[h1],rfl⟩,Ds ρ,h2,h3⟩
theorem AY.one{a:List AV}{x':Value}(h:AY ρ a [x']):∃x,a=[x]∧Aa ρ x x':=by
 cases h with
 | cons h hs=>cases hs;exact⟨_,rfl,h⟩
theorem AY.two{a:List AV}{x' y':Value}(h:AY ρ a [x',y']):∃x y,a=[x,y]∧Aa ρ x x'∧Aa ρ y y':=by
 cases h with
 | cons h hs=>obtain⟨y,rfl,hy⟩:=hs.one;exact⟨_,y,rfl,h,hy⟩
theorem AY.three{a:List AV}{x' y' z':Value}(h:AY ρ a [x',y',z']):∃x y z,a=[x,y,z]∧Aa ρ x x'∧Aa ρ y y'∧Aa ρ z z':=by
 cases h with
 | cons h hs=>obtain⟨y,z,rfl,hy,hz⟩:=hs.two;exact⟨_,y,z,rfl,h,hy,hz⟩
theorem N2{ps:Array (Nat×Operand)}{ev:Operand→Value}{aS:List AV}(h:AY ρ aS ((ps.toList.map (·.2)).map ev)):
    (zipIdx (ps.toList.map (·.1)) aS).map (·.1)=(ps.map fun(p:Nat×Operand)=>(p.1,ev p.2)).toList.map (·.1) ∧
      AY ρ ((zipIdx (ps.toList.map (·.1)) aS).map (·.2)) ((ps.map fun(p:Nat×Operand)=>(p.1,ev p.2)).toList.map (·.2)):=by
  have hlen:=h.length
  simp only[qK]at hlen
  unfold zipIdx
  constructor
  · rw [List.map_fst_zip]
    · simp[Function.comp_def]
    · simp[hlen]
  · rw [List.map_snd_zip]
    · simpa[Function.comp_def]using h
    · simp[hlen]
theorem M5            (hI : Bu  P ρ s w) {t : TypeId} {x : Operand} {lo hi mx : Option Operand} {ev : Operand → Value} {aS : List AV} {v : AV}
    (h:AY ρ aS (([x]++lo.toList++hi.toList++mx.toList).map ev)) (hs:Ad P t lo.isSome hi.isSome mx.isSome s aS=some v):
    ∃v',(Instr.sliceAt t (ev x) (lo.map ev) (hi.map ev) (mx.map ev)).run P w=.ok v' w∧Aa ρ v v':=by
  cases lo with
  | none =>
    cases hi with
    | none =>
      cases mx with
      | none=>obtain⟨x,rfl,hx⟩:=AY.one h;exact FA hI (show Ar P s t _ none none none=some v from hs) hx .none .none .none
      | some m=>obtain⟨x,y,rfl,hx,hy⟩:=AY.two h;simp[Ad]at hs
    | some hh =>
      cases mx with
      | none=>obtain⟨x,y,rfl,hx,hy⟩:=AY.two h;exact FA hI (show Ar P s t _ none (some y) none=some v from hs) hx .none (.some hy) .none
      | some m=>obtain⟨x,y,z,rfl,hx,hy,hz⟩:=AY.three h;exact FA hI (show Ar P s t _ none (some y) (some z)=some v from hs) hx .none (.some hy) (.some hz)
  | some l =>
    cases hi with
    | none =>
      cases mx with
      | none=>obtain⟨x,y,rfl,hx,hy⟩:=AY.two h;exact FA hI (show Ar P s t _ (some y) none none=some v from hs) hx (.some hy) .none .none
      | some m=>obtain⟨x,y,z,rfl,hx,hy,hz⟩:=AY.three h;simp[Ad]at hs
    | some hh =>
      cases mx with
      | none=>obtain⟨x,y,z,rfl,hx,hy,hz⟩:=AY.three h;exact FA hI (show Ar P s t _ (some y) (some z) none=some v from hs) hx (.some hy) (.some hz) .none
      | some m =>
        cases h with
        | cons hx h =>
          obtain⟨y,z,u,rfl,hy,hz,hu⟩:=AY.three h
          exact FA hI (show Ar P s t _ (some y) (some z) (some u)=some v from hs) hx (.some hy) (.some hz) (.some hu)
theorem bh{op:BinOp}{t:TypeId}{x y:Operand}{neg:Bool}(h:bf P op t x y=some neg):op=bif neg then .neq else .eql:=by
 unfold bf at h
 split at h
 ·cases hb:(G6 x && G6 y && G5 P t)with
  | true=>rw[hb]at h;injection h with h;subst h;rfl
  | false=>rw[hb]at h;cases h
 ·cases hb:(G6 x && G6 y && G5 P t)with
  | true=>rw[hb]at h;injection h with h;subst h;rfl
  | false=>rw[hb]at h;cases h
 ·cases h
theorem MO{i:Nat}(h:D6 s i=true):∃r,s.heap.get i=some (.row r)∧r.mode=.own∧r.par=none:=by
  unfold D6 at h
  split at h
  · rename_i r hr
    rw[Bool.and_eq_true]at h
    refine⟨r,Cd hr,?_,?_⟩
    · cases hm:r.mode with
      | own=>rfl
      | _=>rw[hm]at h;cases h.1
    · cases hp:r.par with
      | none=>rfl
      | some _=>rw[hp]at h;cases h.2
  · cases h
theorem V4        (h : Bu  P ρ s w) {neg : Bool} {t : TypeId} {x y v : AV} {x' y' : Value} (hv : HE     P s neg t x y = some v) (hx : Aa   ρ x x') (hy : Aa   ρ y y') (ox oy : Operand) :
    ∃v',(do eqGuard (bif neg then .neq else .eql) t ox oy x' y';Go.binOp (bif neg then .neq else .eql) t x' y').run P w=.ok v' w∧Aa ρ v v':=by
  unfold HE at hv
  split at hv
  · rename_i i o j q
    obtain⟨hg,hv⟩:=AJ hv
    rw[Bool.and_eq_true,Bool.and_eq_true]at hg
    obtain⟨⟨h1,h2⟩,h3⟩:=hg
    injection hv with hv
    subst hv
    obtain⟨ri,i1,i2,i3⟩:=MO h2
    obtain⟨rj,j1,j2,j3⟩:=MO h3
    unfold On at h1
    split at h1<;>first | (cases h1;done) | skip
    rename_i te ht
    split at h1<;>first | (cases h1;done) | skip
    rename_i ji hji
    have hsz:ji.size≠0:=fun e=>by rw[e]at h1;cases h1
    cases hx with
    | @ptr _ _ rbi hi =>
    cases hy with
    | @ptr _ _ rbj hj =>
    have oi:Gr P ρ w (.row ri) rbi:=h.obj i _ rbi i1 hi
    have oj:Gr P ρ w (.row rj) rbj:=h.obj j _ rbj j1 hj
    have oi:FG ρ w ri rbi:=oi
    have oj:FG ρ w rj rbj:=oj
    obtain⟨ci,ei,hi1,_⟩:=oi.own (by rw[i2];intro e;cases e)
    obtain⟨cj,ej,hj1,_⟩:=oj.own (by rw[j2];intro e;cases e)
    have core:∃b:Bool,b=(Nat.beq i j && Nat.beq o q)∧(Op.equal t (.pointer (some ⟨rbi.b,rbi.off+o,none⟩)) (.pointer (some ⟨rbj.b,rbj.off+q,none⟩))).run P w=.ok b w:=by
      by_cases e:i=j∧o=q
      · obtain⟨e1,e2⟩:=e
        subst e1 e2
        rw[hi]at hj
        injection hj with hj
        subst hj
        refine⟨true,by simp,?_⟩
        have hd:∀d:Nat,(Op.equalIn (d+1) t (.pointer (some ⟨rbi.b,rbi.off+o,none⟩)) (.pointer (some ⟨rbi.b,rbi.off+o,none⟩))).run P w=.ok true w:=fun d=>by
          simp[Op.equalIn,AN ht,sizeOf,typeInfo,hji,run_sameAddr_same]
        exact hd 9999
      · have hb:(Nat.beq i j && Nat.beq o q)=false:=by
          cases hb:(Nat.beq i j && Nat.beq o q)with
          | false=>rfl
          | true =>
            rw[Bool.and_eq_true]at hb
            exact absurd ⟨qu hb.1,qu hb.2⟩ e
        have hne:(⟨rbi.b,rbi.off+o,none⟩:Addr)≠⟨rbj.b,rbj.off+q,none⟩:=fun ea=>by
          injection ea with e1 e2
          by_cases eij:i=j
          · subst eij
            rw[hi]at hj
            injection hj with hj
            subst hj
            exact e ⟨rfl,by omega⟩
          · have := (h.sep i j _ _ rbi rbj eij i1 j1 hi hj e1 (by show Ec    rj.mode = true; rw [j2]; rfl)).1
            have this:rj.par=some i:=this
            rw[j3]at this
            cases this
        refine⟨false,hb.symm,?_⟩
        have hd:∀d:Nat,(Op.equalIn (d+1) t (.pointer (some ⟨rbi.b,rbi.off+o,none⟩)) (.pointer (some ⟨rbj.b,rbj.off+q,none⟩))).run P w=.ok false w:=fun d=>by
          simp[Op.equalIn,AN ht,sizeOf,typeInfo,hji,hsz,run_sameAddr_other w hne hi1 hj1]
        exact hd 9999
    obtain⟨b,hb,hrun⟩:=core
    rw[← hb]
    refine⟨.bool (b != neg),?_,.bool _⟩
    rw[Sem.run_bind,FL (by rfl)]
    simp only[Result.andThen_ok]
    cases neg with
    | false =>
      have:Go.binOp .eql t (.pointer (some ⟨rbi.b,rbi.off+o,none⟩)) (.pointer (some ⟨rbj.b,rbj.off+q,none⟩))=(do pure (.bool (← Op.equal t _ _)):Sem Value):=rfl
      rw[show(bif false then BinOp.neq else BinOp.eql)=.eql from rfl,this,Sem.run_bind,hrun]
      cases b<;>rfl
    | true =>
      have:Go.binOp .neq t (.pointer (some ⟨rbi.b,rbi.off+o,none⟩)) (.pointer (some ⟨rbj.b,rbj.off+q,none⟩))=(do pure (.bool (!(← Op.equal t _ _))):Sem Value):=rfl
      rw[show(bif true then BinOp.neq else BinOp.eql)=.neq from rfl,this,Sem.run_bind,hrun]
      cases b<;>rfl
  · exact UO hv hx hy ox oy
theorem kK    (h : Bu  P ρ s w) (hf : ρ s.next = none) {o : Oper} {sh : Sh} {xs : List Operand} {ev : Operand → Value} {aS : List AV} {v : AV} (hsh : BW      P o.op = some (sh, xs)) (has : AY    ρ aS (xs.map ev))
    (hr:J3 sh aS s=some (v,s1)):Ce P ρ s w (execOp ev o) v s1:=by
  cases ho:o.op<;>rw[ho]at hsh<;>first | (simp[BW]at hsh;done) | skip
  case move x =>
    injection hsh with hsh;injection hsh with h1 h2;subst h1;subst h2
    obtain⟨a,rfl,ha⟩:=AY.one has
    obtain⟨hv,rfl⟩:=H6 hr
    injection hv with hv;subst hv
    exact⟨_,w,ρ,.inl (by simp[execOp,ho]),ha,h,Fr.refl _ _ _⟩
  case assign x =>
    injection hsh with hsh;injection hsh with h1 h2;subst h1;subst h2
    obtain⟨a,rfl,ha⟩:=AY.one has
    obtain⟨hv,rfl⟩:=H6 hr
    injection hv with hv;subst hv
    exact⟨_,w,ρ,.inl (by simp[execOp,ho]),ha,h,Fr.refl _ _ _⟩
  case pick c a b =>
    injection hsh with hsh;injection hsh with h1 h2;subst h1;subst h2
    obtain⟨x,y,z,rfl,hx,hy,hz⟩:=AY.three has
    obtain⟨hv,rfl⟩:=Nr hr
    simp only[Rn,Ro]at hv
    split at hv<;>first | (cases hv;done) | skip
    · injection hv with hv;subst hv
      generalize hc:ev c=c' at hx
      cases hx
      exact⟨_,w,ρ,.inl (by simp[execOp,ho,hc,asBool]),hy,h,Fr.refl _ _ _⟩
    · injection hv with hv;subst hv
      generalize hc:ev c=c' at hx
      cases hx
      exact⟨_,w,ρ,.inl (by simp[execOp,ho,hc,asBool]),hz,h,Fr.refl _ _ _⟩
  case build t ps =>
    injection hsh with hsh;injection hsh with h1 h2;subst h1;subst h2
    obtain⟨hv,rfl⟩:=Nr hr
    obtain⟨z1,z2⟩:=N2 has
    simp only[execOp,ho]
    exact Ce.pure h (VG hv z1 z2 w)
  case nilCheck x =>
    injection hsh with hsh;injection hsh with h1 h2;subst h1;subst h2
    obtain⟨a,rfl,ha⟩:=AY.one has
    obtain⟨hv,rfl⟩:=H6 hr
    obtain⟨v',e1,e2⟩:=Oz (P:=P) (w:=w) hv ha ev o x ho rfl
    exact⟨v',w,ρ,.inl e1,e2,h,Fr.refl _ _ _⟩
  case binOp op t x y f =>
    simp only[BW]at hsh
    split at hsh
    · rename_i neg hp
      injection hsh with hsh;injection hsh with h1 h2;subst h1;subst h2
      obtain⟨a,b,rfl,ha,hb⟩:=AY.two has
      obtain⟨hv,rfl⟩:=Ns hr
      simp only[execOp,ho]
      have hop:op=bif neg then .neq else .eql:=bh hp
      subst hop
      exact Ce.pure h (V4 h hv ha hb _ _)
    · injection hsh with hsh;injection hsh with h1 h2;subst h1;subst h2
      obtain⟨a,b,rfl,ha,hb⟩:=AY.two has
      obtain⟨hv,rfl⟩:=Tu hr
      simp only[execOp,ho]
      exact Ce.pure h (UO hv ha hb _ _)
  case unOp op t x =>
    injection hsh with hsh;injection hsh with h1 h2;subst h1;subst h2
    obtain⟨a,rfl,ha⟩:=AY.one has
    obtain⟨hv,rfl⟩:=H6 hr
    simp only[execOp,ho]
    exact Ce.pure h (mj hv ha)
  case makeFunc fn first captured =>
    simp only[BW]at hsh
    split at hsh<;>first | (cases hsh;done) | skip
    rename_i f
    injection hsh with hsh;injection hsh with h1 h2;subst h1;subst h2
    obtain⟨hv,rfl⟩:=Nr hr
    injection hv with hv;subst hv
    rw[qx]at has
    refine⟨.func (.func f) (first.map ev) (captured.map ev),w,ρ,.inl (by simp[execOp,ho,Instr.makeFunc]),.func ?_ ?_,h,Fr.refl _ _ _⟩
    · have:=has.take first.size
      simpa[List.take_left']using this
    · have:=has.drop first.size
      simpa[List.drop_left']using this
  case fieldAddr t x f =>
    injection hsh with hsh;injection hsh with h1 h2;subst h1;subst h2
    obtain⟨a,rfl,ha⟩:=AY.one has
    obtain⟨hv,rfl⟩:=H6 hr
    simp only[execOp,ho]
    exact Ce.pure h (Mw hv ha)
  case field t x f =>
    injection hsh with hsh;injection hsh with h1 h2;subst h1;subst h2
    obtain⟨a,rfl,ha⟩:=AY.one has
    obtain⟨hv,rfl⟩:=H6 hr
    simp only[execOp,ho]
    exact Ce.pure h (VU hv ha)
  case indexAddr t x i =>
    injection hsh with hsh;injection hsh with h1 h2;subst h1;subst h2
    obtain⟨a,b,rfl,ha,hb⟩:=AY.two has
    obtain⟨hv,rfl⟩:=Tu hr
    simp only[execOp,ho]
    exact Ce.pure h (Mz hv ha hb)
  case index t x i =>
    injection hsh with hsh;injection hsh with h1 h2;subst h1;subst h2
    obtain⟨a,b,rfl,ha,hb⟩:=AY.two has
    obtain⟨hv,rfl⟩:=Tu hr
    simp only[execOp,ho]
    exact Ce.pure h (Vg hv ha hb)
  case extract t i =>
    injection hsh with hsh;injection hsh with h1 h2;subst h1;subst h2
    obtain⟨a,rfl,ha⟩:=AY.one has
    obtain⟨hv,rfl⟩:=H6 hr
    simp only[execOp,ho]
    exact Ce.pure h (Pr hv ha)
  case load t a =>
    injection hsh with hsh;injection hsh with h1 h2;subst h1;subst h2
    obtain⟨a,rfl,ha⟩:=AY.one has
    obtain⟨hv,rfl⟩:=Tv hr
    simp only[execOp,ho]
    obtain⟨v',e1,e2,_⟩:=P7 h hv ha
    exact Ce.pure h ⟨v',e1,e2⟩
  case lookup t m k ok =>
    injection hsh with hsh;injection hsh with h1 h2;subst h1;subst h2
    obtain⟨a,b,rfl,ha,hb⟩:=AY.two has
    obtain⟨hv,rfl⟩:=Ns hr
    simp only[execOp,ho]
    exact Ce.pure h (Tf h hv ha hb)
  case convert src dst x =>
    injection hsh with hsh;injection hsh with h1 h2;subst h1;subst h2
    obtain⟨a,rfl,ha⟩:=AY.one has
    obtain⟨hv,rfl⟩:=Tv hr
    simp only[execOp,ho]
    exact Ce.pure h (aQ h hv ha)
  case slice t x lo hi mx =>
    injection hsh with hsh;injection hsh with h1 h2;subst h1;subst h2
    obtain⟨hv,rfl⟩:=Ns hr
    simp only[execOp,ho]
    exact Ce.pure h (M5 h has hv)
  case alloc e =>
    injection hsh with hsh;injection hsh with h1 h2;subst h1;subst h2
    cases has
    obtain⟨ob,m,hm,rfl,rfl⟩:=J4 hr
    simp only[execOp,ho]
    exact Ce.new (VD h hf hm)
  case box e x =>
    injection hsh with hsh;injection hsh with h1 h2;subst h1;subst h2
    obtain⟨a,rfl,ha⟩:=AY.one has
    obtain⟨ob,m,hm,rfl,rfl⟩:=J4 hr
    simp only[execOp,ho]
    exact Ce.new (c9 h hf hm ha)
  case buildSlice t len ps =>
    injection hsh with hsh;injection hsh with h1 h2;subst h1;subst h2
    obtain⟨ob,m,hm,rfl,rfl⟩:=J4 hr
    simp only[qJ]at hm
    obtain⟨r,hr1,hm⟩:=hm
    injection hm with hm;injection hm with h1 h2;subst h1;subst h2
    obtain⟨z1,z2⟩:=N2 has
    simp only[execOp,ho]
    exact Ce.new (PB h hf hr1 z1 z2)
  case makeMap t r =>
    cases r with
    | some _=>simp[BW]at hsh
    | none =>
      injection hsh with hsh;injection hsh with h1 h2;subst h1;subst h2
      cases has
      obtain⟨ob,m,hm,rfl,rfl⟩:=J4 hr
      injection hm with hm;injection hm with h1 h2;subst h1;subst h2
      simp only[execOp,ho]
      exact Ce.new (Tj h hf t)
  case makeSlice t l c =>
    injection hsh with hsh;injection hsh with h1 h2;subst h1;subst h2
    obtain⟨a,b,rfl,ha,hb⟩:=AY.two has
    obtain⟨ob,m,hm,rfl,rfl⟩:=J4 hr
    simp only[execOp,ho]
    exact Ce.new (M0 h hf hm ha hb)
  case store t a x =>
    injection hsh with hsh;injection hsh with h1 h2;subst h1;subst h2
    obtain⟨a,b,rfl,ha,hb⟩:=AY.two has
    obtain⟨hv,rfl⟩:=Ga (cD hr)
    simp only[execOp,ho]
    exact Ce.unit (WS h hv ha hb)
  case mapUpdate t m k x =>
    injection hsh with hsh;injection hsh with h1 h2;subst h1;subst h2
    obtain⟨a,b,c,rfl,ha,hb,hc⟩:=AY.three has
    obtain⟨hv,rfl⟩:=Ga (cD hr)
    simp only[execOp,ho]
    exact Ce.unit (Mr h hv ha hb hc)
  case insert t m k x =>
    injection hsh with hsh;injection hsh with h1 h2;subst h1;subst h2
    obtain⟨a,b,c,rfl,ha,hb,hc⟩:=AY.three has
    obtain⟨hv,rfl⟩:=Ga (cD hr)
    simp only[execOp,ho]
    exact Ce.unit (Mr h hv ha hb hc)
  case call c =>
    obtain⟨callee,args,argTypes⟩:=c
    have hx:∀b,callee=.builtin b→execOp ev o=builtin b argTypes o.type (args.map fun | .const _=>true | _=>false) (args.map ev):=by
      intro b hb
      subst hb
      simp only[execOp,ho,resolve]
      rfl
    simp only[BW]at hsh
    split at hsh
    · injection hsh with hsh;injection hsh with h1 h2;subst h1;subst h2;cases hr
    · injection hsh with hsh;injection hsh with h1 h2;subst h1;subst h2;cases hr
    · cases hsh
    · rename_i b
      rw[hx b rfl]
      have hargs:∀l:List Value,args.toList.map ev=l→args.map ev=l.toArray:=by
        intro l hl
        rw[← hl,← Array.toList_map]
      split at hsh<;>first | (cases hsh;done) | skip
      · split at hsh<;>first | (cases hsh;done) | skip
        rename_i t ht
        injection hsh with hsh;injection hsh with h1 h2;subst h1;subst h2
        obtain⟨hv,rfl⟩:=Ns hr
        split at hv<;>first | (cases hv;done) | skip
        generalize hl:args.toList.map ev=l at has
        cases has with
        | cons hx1 hn =>
          cases hn
          rw[hargs _ hl]
          exact Ce.pure h (eK h ht hv hx1)
      · split at hsh<;>first | (cases hsh;done) | skip
        rename_i t ht
        injection hsh with hsh;injection hsh with h1 h2;subst h1;subst h2
        obtain⟨hv,rfl⟩:=Ns hr
        split at hv<;>first | (cases hv;done) | skip
        generalize hl:args.toList.map ev=l at has
        cases has with
        | cons hx1 hn =>
          cases hn
          rw[hargs _ hl]
          exact Ce.pure h (dg h ht hv hx1)
      · injection hsh with hsh;injection hsh with h1 h2;subst h1;subst h2
        obtain⟨hv,rfl⟩:=Nr hr
        split at hv<;>first | (cases hv;done) | skip
        generalize hl:args.toList.map ev=l at has
        cases has with
        | cons hx1 hn =>
          rw[hargs _ hl]
          refine Ce.pure h ?_
          obtain⟨r',e1,e2⟩:=HY (P:=P) (w:=w) hv hx1 hn
          exact⟨r',by simpa[Builtin.min_]using e1,e2⟩
      · injection hsh with hsh;injection hsh with h1 h2;subst h1;subst h2
        obtain⟨hv,rfl⟩:=Nr hr
        split at hv<;>first | (cases hv;done) | skip
        generalize hl:args.toList.map ev=l at has
        cases has with
        | cons hx1 hn =>
          rw[hargs _ hl]
          refine Ce.pure h ?_
          obtain⟨r',e1,e2⟩:=HY (P:=P) (w:=w) hv hx1 hn
          exact⟨r',by simpa[Builtin.max_]using e1,e2⟩
      · injection hsh with hsh;injection hsh with h1 h2;subst h1;subst h2
        have hr:Af P s argTypes.toList aS=some (v,s1):=hr
        have hr0:=hr
        unfold Af at hr0
        split at hr0<;>first | (cases hr0;done) | skip
        rename_i st xt a len cap x hty _
        clear hr0
        generalize hl:args.toList.map ev=l at has
        obtain⟨a',x',rfl,hx1,hx2⟩:∃a' x',l=[a',x']∧Aa ρ _ a'∧Aa ρ _ x':=by
          cases has with
          | cons h1 h2=>cases h2 with | cons h2 h3=>cases h3;exact⟨_,_,rfl,h1,h2⟩
        rw[hargs _ hl,show argTypes=#[st,xt]from Array.ext' hty]
        rw[hty]at hr
        exact Ce.eff (RT h hf hr hx1 hx2)
      · injection hsh with hsh;injection hsh with h1 h2;subst h1;subst h2
        rw[hargs _ rfl]
        exact Ce.eff (aU h hr (by simpa using has))
      · injection hsh with hsh;injection hsh with h1 h2;subst h1;subst h2
        rw[hargs _ rfl]
        exact Ce.eff (VK h hr (by simpa using has))
      · split at hsh<;>first | (cases hsh;done) | skip
        rename_i t ht
        injection hsh with hsh;injection hsh with h1 h2;subst h1;subst h2
        have hr:BV (fun m k=>AU (Kk P s t m k)) aS=some (v,s1):=hr
        unfold BV at hr
        split at hr<;>first | (cases hr;done) | skip
        obtain⟨hv,rfl⟩:=Ga hr
        generalize hl:args.toList.map ev=l at has
        obtain⟨a',x',rfl,hx1,hx2⟩:∃a' x',l=[a',x']∧Aa ρ _ a'∧Aa ρ _ x':=by
          cases has with
          | cons h1 h2=>cases h2 with | cons h2 h3=>cases h3;exact⟨_,_,rfl,h1,h2⟩
        rw[hargs _ hl]
        obtain⟨w1,e1,e2,e3⟩:=TM (ty:=o.type) h ht hv hx1 hx2
        exact Ce.eff ⟨undef,w1,ρ,e1,Ds ρ,e2,e3⟩
end
def AF.sub(s s':AF):Prop:=∀i o,s.heap.get i=some o→s'.heap.get i=some o
section
variable{P:Program}{ρ ρ1 ρ2:Bp}{s s1 s2:AF}{w w1 w2:World}
theorem AF.sub_new(h:s.heap.get s.next=none)(o:C0):s.sub (newObj s o):=fun i ob e=>by
 rw[CR,if_neg]
 ·exact e
 ·intro q;subst q;rw[h]at e;cases e
theorem FW(h:s.sub s2){i:Nat}{r:EY}(hr:rowAt s i=some r):rowAt s2 i=some r:=by
 have:=h i _ (Cd hr)
 simp[rowAt,this]
theorem ME(h:s.sub s2){i o n:Nat}{l:List AV}(hr:loadN s i o n=some l):loadN s2 i o n=some l:=by
 unfold loadN at hr ⊢
 simp only[qJ]at hr
 obtain⟨r,h1,h2⟩:=hr
 rw[FW h h1]
 exact h2
theorem Tc(h:s.sub s2){i o:Nat}{l:AV}(hr:load1 s i o=some l):load1 s2 i o=some l:=by
 unfold load1 at hr ⊢
 simp only[qJ]at hr
 obtain⟨r,h1,h2⟩:=hr
 rw[FW h h1]
 exact h2
theorem Td(h:s.sub s2){t:TypeId}{a v:AV}(hr:AD P s t a=some v):AD P s2 t a=some v:=by
 unfold AD at hr ⊢
 split at hr<;>first | (cases hr;done) | skip
 simp only[qJ]at hr ⊢
 obtain⟨g,h1,h2⟩:=hr
 refine⟨g,h1,?_⟩
 cases g with
 | true =>
  simp only[qJ]at h2 ⊢
  obtain⟨n,h3,l,h4,h5⟩:=h2
  exact⟨n,h3,l,ME h h4,h5⟩
 | false=>exact Tc h h2
theorem Ov(h:s.sub s2){t:TypeId}{m k v:AV}{ok:Bool}(hr:DF P s t m k ok=some v):DF P s2 t m k ok=some v:=by
  unfold DF at hr ⊢
  split at hr<;>first | (cases hr;done) | skip
  obtain⟨hk,hg⟩:=AJ hr
  clear hr
  rw[hk]
  simp only[AI,cond_true]
  simp only[qJ]at hg ⊢
  obtain⟨es,h1,rest⟩:=hg
  refine⟨es,?_,rest⟩
  cases m with
  | map r =>
    cases r with
    | none=>exact h1
    | some i =>
      simp only at h1 ⊢
      split at h1<;>first | (cases h1;done) | skip
      rename_i hget
      rw[h i _ hget]
      exact h1
  | _=>cases h1
theorem TK(h:s.sub s2){src dst:TypeId}{x v:AV}(hr:CN P s src dst x=some v):CN P s2 src dst x=some v:=by
  unfold CN at hr ⊢
  split at hr<;>first | (cases hr;done) | skip
  · exact hr
  · exact hr
  · split at hr <;> first | (cases hr; done) | skip
    split at hr
    · exact hr
    · simp only[qJ]at hr ⊢
      obtain⟨l,h1,rest⟩:=hr
      exact⟨l,ME h h1,rest⟩
theorem Q4          (h : s.sub s2) {t : TypeId} {x v : AV} {lo hi mx : Option AV} (hr : Ar     P s t x lo hi mx = some v) : Ar     P s2 t x lo hi mx = some v := by
  unfold Ar at hr ⊢
  split at hr<;>first | (cases hr;done) | skip
  · exact hr
  · rename_i a len cap
    split at hr<;>first | (cases hr;done) | skip
    simp only[qJ]at hr ⊢
    obtain⟨n,h1,far,h2,rest⟩:=hr
    refine⟨n,h1,far,?_,rest⟩
    cases cap with
    | some c=>exact h2
    | none =>
      cases a with
      | none=>exact h2
      | some io =>
        obtain⟨i,o⟩:=io
        simp only[qJ]at h2 ⊢
        obtain⟨r,h3,h4⟩:=h2
        exact⟨r,FW h h3,h4⟩
  · exact hr
theorem Kd(h:s.sub s2){t:TypeId}{lo hi mx:Bool}{aS:List AV}{v:AV}(hr:Ad P t lo hi mx s aS=some v):Ad P t lo hi mx s2 aS=some v:=by
 unfold Ad at hr ⊢
 split at hr<;>first | (cases hr;done) | skip
 all_goals
  split at hr<;>first | (cases hr;done) | exact Q4 h hr
theorem Vl(h:s.sub s2){t:TypeId}{x v:AV}(hr:Aq P s t x=some v):Aq P s2 t x=some v:=by
  unfold Aq at hr ⊢
  split at hr<;>first | (cases hr;done) | skip
  · exact hr
  · exact hr
  · exact hr
  · split at hr <;> first | (cases hr; done) | skip
    split at hr<;>first | (cases hr;done) | skip
    rename_i hget
    rw[h _ _ hget]
    exact hr
theorem VJ(h:s.sub s2){t:TypeId}{x v:AV}(hr:VI P s t x=some v):VI P s2 t x=some v:=by
  unfold VI at hr ⊢
  split at hr<;>first | (cases hr;done) | skip
  split at hr<;>first | (cases hr;done) | skip
  split at hr
  · exact hr
  · split at hr <;> first | (cases hr; done) | skip
    simp only[qJ]at hr ⊢
    obtain⟨n,h1,r,h2,h3⟩:=hr
    exact⟨n,h1,r,FW h h2,h3⟩
theorem KL(h:s.sub s2){i:Nat}(hr:D6 s i=true):D6 s2 i=true:=by
  unfold D6 at hr ⊢
  split at hr
  · rename_i r hrow
    rw[FW h hrow]
    exact hr
  · cases hr
theorem QP(h:s.sub s2){neg:Bool}{t:TypeId}{x y v:AV}(hr:HE P s neg t x y=some v):HE P s2 neg t x y=some v:=by
 unfold HE at hr ⊢
 split at hr
 ·obtain⟨hg,hv⟩:=AJ hr
  rw[Bool.and_eq_true,Bool.and_eq_true]at hg
  obtain⟨⟨h1,h2⟩,h3⟩:=hg
  rw[h1,KL h h2,KL h h3]
  exact hv
 ·exact hr
theorem QL{α:Type}{f g:AV→Option α}(hm:∀a v,f a=some v→g a=some v){aS:List AV}{v:α}(h:one f aS=some v):one g aS=some v:=by
 unfold one at h ⊢
 split at h<;>first | (cases h;done) | exact hm _ _ h
theorem QK{α:Type}{f g:AV→AV→Option α}(hm:∀a b v,f a b=some v→g a b=some v){aS:List AV}{v:α}(h:BV f aS=some v):BV g aS=some v:=by
 unfold BV at h ⊢
 split at h<;>first | (cases h;done) | exact hm _ _ _ h
theorem V7(h:s.sub s2){o:Op}{sh:Sh}{xs:List Operand}{aS:List AV}{v:AV}(hsh:BW P o=some (sh,xs))(hr:Ev sh aS s=some v):Ev sh aS s2=some v:=by
 cases o<;>first | (simp[BW]at hsh;done) | skip
 case binOp op t x y f =>
  simp only[BW]at hsh
  split at hsh
  ·injection hsh with hsh;injection hsh with h1 h2;subst h1;exact QK (fun _ _ _=>QP h) hr
  ·injection hsh with hsh;injection hsh with h1 h2;subst h1;cases hr
 case load t a=>injection hsh with hsh;injection hsh with h1 h2;subst h1;exact QL (fun _ _=>Td h) hr
 case lookup t m k ok=>injection hsh with hsh;injection hsh with h1 h2;subst h1;exact QK (fun _ _ _=>Ov h) hr
 case convert src dst x=>injection hsh with hsh;injection hsh with h1 h2;subst h1;exact QL (fun _ _=>TK h) hr
 case slice t x lo hi mx=>injection hsh with hsh;injection hsh with h1 h2;subst h1;exact Kd h hr
 case call c =>
  obtain⟨callee,args,argTypes⟩:=c
  simp only[BW]at hsh
  split at hsh<;>first | (cases hsh;done) | (injection hsh with hsh;injection hsh with h1 h2;subst h1;cases hr;done) | skip
  split at hsh<;>first | (cases hsh;done) | (injection hsh with hsh;injection hsh with h1 h2;subst h1;cases hr;done) | skip
  ·split at hsh<;>first | (cases hsh;done) | skip
   injection hsh with hsh;injection hsh with h1 h2;subst h1
   simp only[Ev]at hr ⊢
   split at hr<;>first | (cases hr;done) | exact Vl h hr
  ·split at hsh<;>first | (cases hsh;done) | skip
   injection hsh with hsh;injection hsh with h1 h2;subst h1
   simp only[Ev]at hr ⊢
   split at hr<;>first | (cases hr;done) | exact VJ h hr
  ·split at hsh<;>first | (cases hsh;done) | skip
   injection hsh with hsh;injection hsh with h1 h2;subst h1;cases hr
 case makeMap t r =>
  cases r with
  | some _=>cases hsh
  | none=>injection hsh with hsh;injection hsh with h1 h2;subst h1;cases hr
 case makeFunc fn first captured =>
  cases fn with
  | func f=>injection hsh with hsh;injection hsh with h1 h2;subst h1;cases hr
  | _=>cases hsh
 all_goals (injection hsh with hsh;injection hsh with h1 h2;subst h1;cases hr)
end
theorem O0(l:List AV)(i:Nat):Uz l i=l.getD i BJ:=by
  induction l generalizing i with
  | nil=>rfl
  | cons a l ih =>
    cases i with
    | zero=>rfl
    | succ i=>exact ih i
theorem O1{l:List AV}{i:Nat}{v:AV}(h:l[i]? = some v):Uz l i=v:=by rw[O0];simp[h]
theorem KA(v:AV)(l:List AV)(i:Nat):Mq v l i=l.set i v:=by
  induction l generalizing i with
  | nil=>rfl
  | cons a l ih =>
    cases i with
    | zero=>rfl
    | succ i=>exact congrArg (a::·) (ih i)
theorem O2{v:AV}{l:List AV}{i:Nat}(h:i<l.length):Uz (Mq v l i) i=v:=by
 rw[O0,KA];simp[h]
theorem Hm{v:AV}{l:List AV}{i j:Nat}(h:i≠j):Uz (Mq v l j) i=Uz l i:=by
 rw[O0,O0,KA];simp[rx (Ne.symm h)]
theorem Fj{vars:List Tmp}{t:Tmp}:∀ {j:Nat},CA vars t=some j→vars[j]? = some t:=by
 induction vars with
 | nil=>intro j h;cases h
 | cons a l ih =>
  intro j h
  unfold CA at h
  cases hb:Nat.beq a t with
  | true =>
   rw[hb]at h
   simp only[cond_true,Option.some.injEq]at h
   subst h
   rw[A3 hb]
   rfl
  | false =>
   rw[hb]at h
   simp only[cond_false,qJ]at h
   obtain⟨i,h1,h2⟩:=h
   injection h2 with h2
   subst h2
   exact ih h1
theorem FT{vars:List Tmp}{t:Tmp}{j:Nat}(h:CA vars t=some j):j<vars.length:=by
 have:=Fj h
 rcases qN j vars.length with h' | h'
 ·exact h'
 ·rw[qZ h']at this;cases this
theorem KM{vars:List Tmp}{t u:Tmp}{j:Nat}(h:CA vars t=some j)(k:CA vars u=some j):t=u:=by
 have h1:=Fj h
 have h2:=Fj k
 rw[h1]at h2
 injection h2
mutual
theorem af     : ∀ {a b : AV}, FY  a b = true → a = b := by
  intro a b h
  unfold FY at h
  split at h
  · simp at h;rw[h]
  · simp only[Bool.and_eq_true]at h;have:=Fl h.1;subst this;have h2:=h.2;rw[Fs]at h2;simp at h2;rw[h2]
  · rename_i x y
    have:∀x y:List Nat,Gg x y=true→x=y:=by
      intro x
      induction x with
      | nil=>intro y h;cases y with | nil=>rfl | cons=>cases h
      | cons a x ih =>
        intro y h
        cases y with
        | nil=>cases h
        | cons b y =>
          unfold Gg at h
          cases hb:Nat.beq a b with
          | true=>rw[hb]at h;rw[A3 hb,ih y h]
          | false=>rw[hb]at h;cases h
    rw[this _ _ h]
  · rfl
  · simp only[Bool.and_eq_true]at h;rw[A3 h.1,A3 h.2]
  · simp only[Bool.and_eq_true]at h;rw[A3 h.1,A3 h.2]
  · rw[A3 h]
  · simp only[Bool.and_eq_true]at h;rw[A3 h.1.1,A3 h.1.2,A3 h.2]
  · simp only[Bool.and_eq_true]at h;rw[A3 h.1.1.1,A3 h.1.1.2,A3 h.1.2,A3 h.2]
  · rfl
  · rw[A3 h]
  · simp only[Bool.and_eq_true]at h;rw[A3 h.1.1,Ib h.1.2,Ib h.2]
  · rfl
  · rfl
  · rw[A3 h]
  · rw[Ib h]
  · rw[Ib h]
  · cases h
theorem Ib:∀ {a b:List AV},FY.eqAs a b=true→a=b:=by
 intro a b h
 unfold FY.eqAs at h
 split at h
 ·rfl
 ·simp only[Bool.and_eq_true]at h;rw[af h.1,Ib h.2]
 ·cases h
end
abbrev CJ:=Tmp→Option AV
def CJ.put(R:CJ)(d:Option Tmp)(v:AV):CJ:=match d with
 | none=>R
 | some d=>fun t=>if t=d then some v else R t
def QR(R:CJ):Operand→Option AV
 | .tmp t=>R t
 | .const v=>ofValue v
 | .global _=>none
 | .func f=>some (.func f [] [])
def ER(R:CJ):List Operand→Option (List AV)
 | []=>some []
 | x::l=>(QR R x).bind fun a=>(ER R l).bind fun r=>some (a::r)
def I8(ops:Array Oper)(R:CJ)(o:Oper):Option Bool:=match o.guard with
 | none=>some true
 | some (j,want)=>(ops[j]?).bind fun p=>p.dst.bind fun d=>(R d).bind fun x=>some (mr want x)
def cY(F:EF)(sh:Sh)(aS:List AV)(s:AF):Option (AV×AF):=
 match sh with
 | .call f=>F.call f aS s
 | .callv=>(match aS with | a::l=>Gy F a l s | []=>none)
 | _=>J3 sh aS s
structure RS where
 idx:Nat
 sh:Sh
 aS:List AV
 v:AV
 want:Bool
structure Kz(P:Program)(F:EF)(ops:Array Oper)(nt:Nat)(R:CJ)(s:AF)(o:Oper)(sh:Sh)(want:Bool)(aS:List AV)(v:AV)(R1:CJ)(s1:AF):Prop where
 shape:∃xs,BW P o.op=some (sh,xs)∧ER R xs=some aS
 wants:I8 ops R o=some want
 put:R1=R.put o.dst v
 lt:∀d,o.dst=some d→d<nt
 yes:want=true→cY F sh aS s=some (v,s1)
 no:want=false→v=BJ∧s1=s
inductive Trace (P:Program) (F:EF) (ops:Array Oper) (nt:Nat) (b:Array Nat) (draw:Bool):List Nat→List RS→CJ→AF→CJ→AF→Prop
 | nil {rs:List RS} {R:CJ} {s:AF}:Trace P F ops nt b draw [] rs R s R s
 | cons {i:Nat} {l:List Nat} {rs:List RS} {R R1 R2:CJ} {s s1 s2:AF} {o:Oper} {sh:Sh} {want:Bool} {aS:List AV} {v:AV}
   (ho:ops[i]? = some o) (hs:Kz P F ops nt R s o sh want aS v R1 s1)
   (ag:draw=true→sh.isEff=true→want=true→∀r∈rs,(b.getD i 0).testBit r.idx=false→r.want=true→Ev r.sh r.aS s1=some r.v)
   (hl:Trace P F ops nt b draw l (bif draw && sh.isRead then ⟨i,sh,aS,v,want⟩::rs else rs) R1 s1 R2 s2):Trace P F ops nt b draw (i::l) rs R s R2 s2
structure Ej(vars:List Tmp)(c:cZ)(loc var:List AV)(R:CJ):Prop where
 vlen:var.length=vars.length
 bnd:∀t p,Et c.map t=some (.loc p)→p<c.cnt
 keys:∀t x,Et c.map t=some x→CA vars t=none
 val:∀t x,Ew vars c t=some x→R t=some (Du loc var (Cf c.cnt x))
theorem Vm:∀ {m:List (Tmp×CX)}{t:Tmp}{x:CX},Et m t=some x→(t,x)∈m:=by
 intro m
 induction m with
 | nil=>intro t x h;cases h
 | cons p m ih =>
  obtain⟨a,y⟩:=p
  intro t x h
  unfold Et at h
  cases hb:Nat.beq a t with
  | true =>
   rw[hb]at h
   simp only[cond_true,Option.some.injEq]at h
   rw[A3 hb,h]
   exact qR
  | false =>
   rw[hb]at h
   exact qS _ (ih h)
theorem QI:∀ {m:List (Tmp×CX)}{j:Nat},Ip j m=true→∀t,(t,CX.var j) ∉ m:=by
 intro m
 induction m with
 | nil=>intro j h t hm;cases hm
 | cons p m ih =>
  obtain⟨a,y⟩:=p
  intro j h t hm
  simp only[Ip,Bool.and_eq_true,Bool.not_eq_true']at h
  cases hm with
  | head=>simp[isVar]at h
  | tail _ hm=>exact ih h.2 t hm
theorem EL(m:List (Tmp×CX))(d t:Tmp)(x:CX):Et ((d,x)::m) t=if t=d then some x else Et m t:=by
 simp only[Et]
 by_cases e:t=d
 ·subst e;simp
 ·have:Nat.beq d t=false:=by
   cases hb:Nat.beq d t with
   | true=>exact absurd (A3 hb).symm e
   | false=>rfl
  rw[this,if_neg e,cond_false]
theorem E9{loc var:List AV}{v:AV}{cnt:Nat}{x:CX}(h:∀p,x=.loc p→p<cnt):Du (v::loc) var (Cf (cnt+1) x)=Du loc var (Cf cnt x):=by
 cases x with
 | loc p =>
  have:=h p rfl
  simp only[Cf,Du]
  rw[show cnt+1 - 1 - p=(cnt - 1 - p)+1 from by omega]
  rfl
 | var j=>rfl
 | const v=>rfl
variable{vars:List Tmp}{c:cZ}{loc var:List AV}{R:CJ}
theorem Ej.push(h:Ej vars c loc var R){d:Tmp}(v:AV)(hd:CA vars d=none):Ej vars { map:=(d,.loc c.cnt)::c.map,cnt:=c.cnt+1 } (v::loc) var (R.put (some d) v):=by
  refine⟨h.vlen,?_,?_,?_⟩
  · intro t p hp
    rw[EL]at hp
    split at hp
    · injection hp with hp;injection hp with hp;subst hp;exact qn _
    · exact rY (h.bnd t p hp)
  · intro t x hx
    rw[EL]at hx
    split at hx
    · rename_i e;subst e;exact hd
    · exact h.keys t x hx
  · intro t x hx
    unfold Ew at hx
    simp only[EL]at hx
    by_cases e:t=d
    · subst e
      simp only[if_true,Option.some.injEq]at hx
      subst hx
      simp only[CJ.put,if_true,Cf,Du]
      rw[show c.cnt+1 - 1 - c.cnt=0 from by omega]
      rfl
    · simp only [if_neg e] at hx
      simp only[CJ.put,if_neg e]
      have hx':Ew vars c t=some x:=by unfold Ew;exact hx
      rw[h.val t x hx',E9]
      intro p hp
      subst hp
      cases hl:Et c.map t with
      | some y=>rw[hl]at hx;injection hx with hx;subst hx;exact h.bnd t p hl
      | none=>rw[hl]at hx;simp only[qJ]at hx;obtain⟨j,_,hx⟩:=hx;cases hx
theorem Ma(h:Ej vars c loc var R){t:Tmp}{x:CX}(hx:Ew vars c t=some x):∀p,x=.loc p→p<c.cnt:=by
 intro p hp
 subst hp
 unfold Ew at hx
 cases hl:Et c.map t with
 | some y=>rw[hl]at hx;injection hx with hx;subst hx;exact h.bnd t p hl
 | none=>rw[hl]at hx;simp only[qJ]at hx;obtain⟨j,_,hx⟩:=hx;cases hx
theorem ML(h:Ej vars c loc var R){o:Operand}{x:CX}(hx:Fi vars c o=some x):∀p,x=.loc p→p<c.cnt:=by
 cases o with
 | tmp t=>exact Ma h hx
 | const v =>
  intro p hp
  subst hp
  simp only[Fi,qJ]at hx
  obtain⟨a,_,hx⟩:=hx
  cases hx
 | global g=>cases hx
 | func f=>intro p hp;subst hp;simp[Fi]at hx
theorem Ej.pushNone(h:Ej vars c loc var R)(v:AV):Ej vars { c with cnt:=c.cnt+1 } (v::loc) var R:=by
 refine⟨h.vlen,fun t p hp=>rY (h.bnd t p hp),h.keys,?_⟩
 intro t x hx
 have hx':Ew vars c t=some x:=hx
 rw[h.val t x hx',E9 (Ma h hx')]
theorem Ej.set   (h : Ej   vars c loc var R) {d : Tmp} {j : Nat} (v : AV) (hd : CA      vars d = some j) (hn : Ip      j c.map = true) : Ej   vars c loc (Mq  v var j) (R.put (some d) v) := by
  refine⟨by rw[KA,qQ];exact h.vlen,h.bnd,h.keys,?_⟩
  intro t x hx
  have hj:j<var.length:=by rw[h.vlen];exact FT hd
  by_cases e:t=d
  · subst e
    unfold Ew at hx
    cases hl:Et c.map t with
    | some y=>have:=h.keys t y hl;rw[hd]at this;cases this
    | none =>
      rw[hl,hd]at hx
      injection hx with hx
      subst hx
      simp only[CJ.put,if_true,Cf,Du]
      rw[O2 hj]
  · simp only[CJ.put,if_neg e]
    rw[h.val t x hx]
    congr 1
    cases x with
    | loc p=>rfl
    | const v=>rfl
    | var i =>
      simp only[Cf,Du]
      rw[Hm]
      intro q
      subst q
      unfold Ew at hx
      cases hl:Et c.map t with
      | some y=>rw[hl]at hx;injection hx with hx;subst hx;exact QI hn t (Vm hl)
      | none =>
        rw[hl]at hx
        simp only[qJ]at hx
        obtain⟨k,hk,hx⟩:=hx
        injection hx with hx
        injection hx with hx
        subst hx
        exact e (KM hk hd)
theorem Ej.alias(h:Ej vars c loc var R){d:Tmp}{o:Operand}{x:CX}(hx:Fi vars c o=some x)(hd:CA vars d=none):
    Ej vars { c with map:=(d,x)::c.map } loc var (R.put (some d) (Du loc var (Cf c.cnt x))):=by
  refine⟨h.vlen,?_,?_,?_⟩
  · intro t p hp
    rw[EL]at hp
    split at hp
    · injection hp with hp;subst hp;exact ML h hx p rfl
    · exact h.bnd t p hp
  · intro t y hy
    rw[EL]at hy
    split at hy
    · rename_i e;subst e;exact hd
    · exact h.keys t y hy
  · intro t y hy
    unfold Ew at hy
    simp only[EL]at hy
    by_cases e:t=d
    · subst e
      simp only[if_true,Option.some.injEq]at hy
      subst hy
      simp only[CJ.put,if_true]
    · simp only [if_neg e] at hy
      simp only[CJ.put,if_neg e]
      exact h.val t y hy
theorem MM(h:Ej vars c loc var R){o:Operand}{x:CX}(hx:Fi vars c o=some x):QR R o=some (Du loc var (Cf c.cnt x)):=by
 cases o with
 | tmp t=>exact h.val t x hx
 | const v =>
  simp only[Fi,qJ]at hx
  obtain⟨a,h1,h2⟩:=hx
  injection h2 with h2
  subst h2
  exact h1
 | global g=>cases hx
 | func f=>injection hx with hx;subst hx;rfl
theorem Ni(h:Ej vars c loc var R):∀ {l:List Operand}{xs:List CX},Hz vars c l=some xs→ER R l=some (EI loc var (xs.map (Cf c.cnt)))
 | [],xs,hx=>by injection hx with hx;subst hx;rfl
 | o::l,xs,hx=>by
  simp only[Hz,qJ]at hx
  obtain⟨a,h1,r,h2,h3⟩:=hx
  injection h3 with h3
  subst h3
  simp only[ER,MM h h1,Ni h h2,Option.bind_some,rI]
  rfl
theorem er{F:EF}{sh:Sh}{xs:List CX}{loc var:List AV}{s:AF}{p:AV×AF}(h:mf F sh xs loc var s=some p):cY F sh (EI loc var xs) s=some p:=by
 cases sh with
 | p1 f=>cases xs with
  | nil=>cases h
  | cons x l=>exact h
 | p2 f=>cases xs with
  | nil=>cases h
  | cons x l=>cases l with
   | nil=>cases h
   | cons y l=>exact h
 | p f=>exact h
 | r1 f=>cases xs with
  | nil=>cases h
  | cons x l=>exact h
 | r f=>exact h
 | mk f=>exact h
 | e f=>exact h
 | call f=>exact h
 | callv=>cases xs with
  | nil=>cases h
  | cons x l=>exact h
def OD(cnt:Nat)(x:CX):Prop:=∀p,x=.loc p→p<cnt
structure IM(loc var:List AV)(cnt:Nat)(r:Nat×Gl)(q:RS):Prop where
 idx:r.1=q.idx
 sh:r.2.sh=q.sh
 aS:EI loc var (r.2.xs.map (Cf cnt))=q.aS
 v:Du loc var (Cf cnt r.2.ans)=q.v
 want:Bl loc var (Hg cnt r.2.guard)=q.want
 bx:∀x∈r.2.xs,OD cnt x
 ba:∃p,r.2.ans=.loc p∧p<cnt
 bg:∀x b,r.2.guard=some (x,b)→OD cnt x
inductive F1 (loc var:List AV) (cnt:Nat):List (Nat×Gl)→List RS→Prop
 | nil:F1 loc var cnt [] []
 | cons {r:Nat×Gl} {q:RS} {l:List (Nat×Gl)} {m:List RS} (h:IM loc var cnt r q) (hl:F1 loc var cnt l m):F1 loc var cnt (r::l) (q::m)
theorem JX{loc var:List AV}{v:AV}{cnt:Nat}:∀ {xs:List CX},(∀x∈xs,OD cnt x)→EI (v::loc) var (xs.map (Cf (cnt+1)))=EI loc var (xs.map (Cf cnt))
 | [],_=>rfl
 | x::l,h=>by
  show Du (v::loc) var (Cf (cnt+1) x)::EI (v::loc) var (l.map (Cf (cnt+1)))=Du loc var (Cf cnt x)::EI loc var (l.map (Cf cnt))
  rw[E9 (h x qR),JX fun y hy=>h y (qS _ hy)]
theorem OD.succ{cnt:Nat}{x:CX}(h:OD cnt x):OD (cnt+1) x:=fun p hp=>rY (h p hp)
theorem IM.push{loc var:List AV}{cnt:Nat}{r:Nat×Gl}{q:RS}(h:IM loc var cnt r q)(v:AV):IM (v::loc) var (cnt+1) r q:=by
  obtain⟨p,hp,hlt⟩:=h.ba
  refine⟨h.idx,h.sh,(JX h.bx).trans h.aS,?_,?_,fun x hx=>(h.bx x hx).succ,⟨p,hp,rY hlt⟩,fun x b e=>(h.bg x b e).succ⟩
  · rw [E9]
    · exact h.v
    · intro p' e;rw[hp]at e;injection e with e;subst e;exact hlt
  · rw[← h.want]
    cases hg:r.2.guard with
    | none=>rfl
    | some g =>
      obtain⟨x,b⟩:=g
      simp only[Hg,Bl]
      rw[E9 (h.bg x b hg)]
theorem F1.push{loc var:List AV}{cnt:Nat}{rs:List (Nat×Gl)}{m:List RS}(h:F1 loc var cnt rs m)(v:AV):F1 (v::loc) var (cnt+1) rs m:=by
 induction h with
 | nil=>exact .nil
 | cons h _ ih=>exact .cons (h.push v) ih
theorem Ug{loc var:List AV}{v:AV}{j:Nat}{x:CX}(h:isVar j x=false):Du loc (Mq v var j) x=Du loc var x:=by
 cases x with
 | loc p=>rfl
 | const c=>rfl
 | var i =>
  simp only[Du]
  rw[Hm]
  intro e
  subst e
  simp[isVar]at h
theorem Nb{cnt j:Nat}{x:CX}:isVar j (Cf cnt x)=isVar j x:=by cases x<;>rfl
theorem Pj{loc var:List AV}{v:AV}{j cnt:Nat}:∀ {xs:List CX},(xs.all fun x=>!isVar j x)=true→EI loc (Mq v var j) (xs.map (Cf cnt))=EI loc var (xs.map (Cf cnt))
 | [],_=>rfl
 | x::l,h=>by
  simp only[List.all_cons,Bool.and_eq_true,Bool.not_eq_true']at h
  show Du loc (Mq v var j) (Cf cnt x)::EI loc (Mq v var j) (l.map (Cf cnt))=Du loc var (Cf cnt x)::EI loc var (l.map (Cf cnt))
  rw[Ug (by rw[Nb];exact h.1),Pj h.2]
theorem IM.set{loc var:List AV}{cnt j:Nat}{r:Nat×Gl}{q:RS}(h:IM loc var cnt r q)(v:AV)(hf:O4 j r.2=true):IM loc (Mq v var j) cnt r q:=by
 obtain⟨p,hp,hlt⟩:=h.ba
 simp only[O4,Bool.and_eq_true]at hf
 refine⟨h.idx,h.sh,(Pj hf.2).trans h.aS,?_,?_,h.bx,h.ba,h.bg⟩
 ·rw[← h.v,hp];rfl
 ·rw[← h.want]
  cases hg:r.2.guard with
  | none=>rfl
  | some g =>
   obtain⟨x,b⟩:=g
   have:=hf.1
   rw[hg]at this
   simp only[Bool.not_eq_true']at this
   simp only[Hg,Bl]
   rw[Ug (by rw[Nb];exact this)]
theorem F1.set{loc var:List AV}{cnt j:Nat}{rs:List (Nat×Gl)}{m:List RS}(h:F1 loc var cnt rs m)(v:AV)(hf:(rs.all fun r=>O4 j r.2)=true):F1 loc (Mq v var j) cnt rs m:=by
 induction h with
 | nil=>exact .nil
 | cons h _ ih =>
  simp only[List.all_cons,Bool.and_eq_true]at hf
  exact .cons (h.set v hf.1) (ih hf.2)
theorem Wp       {s : AF}  {loc var : List AV} {cnt : Nat} {f : Nat × Gl  → Bool} : ∀ {rs : List (Nat × Gl)}  {m : List RS},  F1    loc var cnt rs m → Ek     s loc var ((rs.filter f).map fun r => Iw    cnt r.2) = true →
    ∀q∈m,(∀r:Nat×Gl,r.1=q.idx→f r=true)→q.want=true→Ev q.sh q.aS s=some q.v:=by
  intro rs m h
  induction h with
  | nil=>intro _ q hq;cases hq
  | cons h hl ih =>
    rename_i r q l m
    intro hag q' hq' hf hw
    simp only[List.filter_cons]at hag
    cases hq' with
    | head =>
      rw[if_pos (hf r h.idx)]at hag
      have hag:(GJ s loc var (Iw cnt r.2) && Ek s loc var ((l.filter f).map fun r=>Iw cnt r.2))=true:=hag
      simp only[Bool.and_eq_true]at hag
      have h1:=hag.1
      simp only[GJ,Iw,h.want,hw,Bool.not_true,Bool.false_or,h.aS,h.v,h.sh]at h1
      cases hr:Ev q.sh q.aS s with
      | none=>rw[hr]at h1;cases h1
      | some u =>
        rw[hr]at h1
        have:=af (show FY u q.v=true from h1)
        rw[this]
    | tail _ hq' =>
      refine ih ?_ q' hq' hf hw
      by_cases hfr:f r=true
      · rw[if_pos hfr]at hag
        have hag:(GJ s loc var (Iw cnt r.2) && Ek s loc var ((l.filter f).map fun r=>Iw cnt r.2))=true:=hag
        simp only[Bool.and_eq_true]at hag
        exact hag.2
      · rw[if_neg hfr]at hag
        exact hag
theorem ap       {P : Program} {vars : List Tmp} {c : cZ}  {loc var : List AV} {R : CJ}   {ops : Array Oper} {o : Oper} {g : Option (CX × Bool)} (h : Ej   vars c loc var R)
    (hg:(match o.guard with
        | none=>some none
        | some (j,want)=>(ops[j]?).bind fun p=>p.dst.bind fun d=>(Ew vars c d).bind fun x=>some (some (x,want)))=some g):
    I8 ops R o=some (Bl loc var (Hg c.cnt g))∧∀x b,g=some (x,b)→OD c.cnt x:=by
  unfold I8
  split at hg
  · rename_i he
    injection hg with hg
    subst hg
    try rw[he]
    exact⟨rfl,fun x b e=>by cases e⟩
  · rename_i j want he
    simp only[qJ]at hg
    obtain⟨p,h1,d,h2,x,h3,h4⟩:=hg
    injection h4 with h4
    subst h4
    try rw[he]
    refine⟨?_,fun y b e=>by injection e with e;injection e with e1 e2;subst e1;exact Ma h h3⟩
    simp only[h1,h2,Option.bind_some,h.val d x h3,Hg,Bl]
theorem TJ         {P : Program} {F : EF}  {nt : Nat} {vars : List Tmp} {ops : Array Oper} {b : Array Nat} {draw : Bool} :
    ∀ (l:List Nat) (c:cZ) (rs:List (Nat×Gl)) (items:List AA) (loc var:List AV) (s:AF) (var':List AV) (s':AF) (R:CJ) (m:List RS),
      E1 P nt vars ops b draw l c rs=some items→Eo F items loc var s=some (var',s')→Ej vars c loc var R→F1 loc var c.cnt rs m →
      ∃R',Trace P F ops nt b draw l m R s R' s'∧∃c' loc',Ej vars c' loc' var' R':=by
  intro l
  induction l with
  | nil =>
    intro c rs items loc var s var' s' R m hc hi hr hm
    injection hc with hc
    subst hc
    have hi:some (var,s)=some (var',s'):=hi
    injection hi with hi
    injection hi with h1 h2
    subst h1;subst h2
    exact⟨R,.nil,c,loc,hr⟩
  | cons i l ih =>
    intro c rs items loc var s var' s' R m hc hi hr hm
    simp only[E1,qJ]at hc
    obtain⟨o,ho,sh,hsh,xs,hxs,hc⟩:=hc
    split at hc
    ·
      rename_i x d hal hd
      obtain⟨hlt,hc⟩:=AJ hc
      have hlt:d<nt:=by simpa[qj]using hlt
      have hx1:xs=[x]∧Kh vars (l.map fun j=>(ops.getD j default).dst) o x=true:=by
        split at hal
        · rename_i y
          cases ha:Kh vars (l.map fun j=>(ops.getD j default).dst) o y with
          | true=>rw[ha]at hal;injection hal with hal;subst hal;exact⟨rfl,ha⟩
          | false=>rw[ha]at hal;cases hal
        · cases hal
      obtain⟨rfl,ha⟩:=hx1
      simp only[Kh,Bool.and_eq_true]at ha
      obtain⟨⟨⟨a1,a2⟩,a3⟩,_⟩:=ha
      split at a1<;>first | (cases a1;done) | skip
      rename_i y hop
      have hsh':sh=(.p1 some,[y]):=by rw[hop]at hsh;injection hsh with hsh;exact hsh.symm
      subst hsh'
      have hy:Fi vars c y=some x:=by
        simp only[Hz,qJ]at hxs
        obtain⟨a,h1,r,h2,h3⟩:=hxs
        injection h3 with h3
        injection h3 with h3 h4
        subst h3
        exact h1
      rw[hd]at a3
      have hpd:CA vars d=none:=by simpa using a3
      have hr':=hr.alias hy hpd
      obtain⟨R',t1,t2⟩:=ih _ rs items loc var s var' s' _ m hc hi hr' hm
      refine⟨R',.cons (sh:=.p1 some) (want:=true) (aS:=[Du loc var (Cf c.cnt x)]) (v:=Du loc var (Cf c.cnt x)) (R1:=R.put (some d) (Du loc var (Cf c.cnt x))) (s1:=s) ho ?_ ?_ ?_,t2⟩
      · refine ⟨⟨[y], hsh, ?_⟩, ?_, by rw [hd], ?_, fun _ => rfl, fun e => by cases e⟩
        · simp[ER,MM hr hy]
        · unfold I8
          cases hg:o.guard with
          | none=>rfl
          | some g=>rw[hg]at a2;cases a2
        · intro d' e;rw[hd]at e;injection e with e;subst e;exact hlt
      · intro _ e;cases e
      · have:(draw && Sh.isRead (.p1 some))=false:=by cases draw<;>rfl
        rw[this]
        exact t1
    ·
      simp only[qJ]at hc
      obtain⟨g,hg,q,hq,hc⟩:=hc
      obtain⟨hpush,hc⟩:=AJ hc
      simp only[qJ]at hc
      obtain⟨items',hc',hc⟩:=hc
      injection hc with hc
      subst hc
      obtain⟨hw,hgb⟩:=ap (P:=P) hr hg
      have has:=Ni hr hxs
      have hi:L9 F _ (Eo F items') loc var s=some (var',s'):=hi
      have step:∃v s1,(Bl loc var (Hg c.cnt g)=true→cY F sh.1 (EI loc var (xs.map (Cf c.cnt))) s=some (v,s1))∧(Bl loc var (Hg c.cnt g)=false→v=BJ∧s1=s) ∧
          DE (bif Bl loc var (Hg c.cnt g)then ((match draw,sh.1.isEff with
            | true,true=>rs.filter fun(r:Nat×Gl)=>!(b.getD i 0).testBit r.1
            | _,_=>[]).map fun(r:Nat×Gl)=>Iw q.2.cnt r.2)else []) q.1 (Eo F items') loc var v s1=some (var',s'):=by
        unfold L9 at hi
        cases hwt:Bl loc var (Hg c.cnt g)with
        | true =>
          simp only[hwt]at hi
          unfold Kq at hi
          split at hi<;>first | (cases hi;done) | skip
          rename_i p hp
          exact⟨p.1,p.2,fun _=>er hp,(fun e=>by cases e),hi⟩
        | false =>
          simp only[hwt]at hi
          exact⟨BJ,s,(fun e=>by cases e),fun _=>⟨rfl,rfl⟩,hi⟩
      obtain⟨v,s1,st1,st2,st3⟩:=step
      have fin:∀ (loc1 var1:List AV),Ej vars q.2 loc1 var1 (R.put o.dst v)→F1 loc1 var1 q.2.cnt rs m →
          ((draw && sh.1.isRead)=true→IM loc1 var1 q.2.cnt (i,{ guard:=g,sh:=sh.1,xs,ans:=.loc c.cnt }) ⟨i,sh.1,EI loc var (xs.map (Cf c.cnt)),v,Bl loc var (Hg c.cnt g)⟩) →
          (∀d,o.dst=some d→d<nt) →
          Ek s1 loc1 var1 (bif Bl loc var (Hg c.cnt g)then ((match draw,sh.1.isEff with
            | true,true=>rs.filter fun(r:Nat×Gl)=>!(b.getD i 0).testBit r.1
            | _,_=>[]).map fun(r:Nat×Gl)=>Iw q.2.cnt r.2)else [])=true→Eo F items' loc1 var1 s1=some (var',s') →
          ∃R',Trace P F ops nt b draw (i::l) m R s R' s'∧∃c' loc',Ej vars c' loc' var' R':=by
        intro loc1 var1 f1 f2 f3 f4 f5 f6
        have hm':F1 loc1 var1 q.2.cnt (bif draw && sh.1.isRead then (i,{ guard:=g,sh:=sh.1,xs,ans:=.loc c.cnt })::rs else rs)
            (bif draw && sh.1.isRead then ⟨i,sh.1,EI loc var (xs.map (Cf c.cnt)),v,Bl loc var (Hg c.cnt g)⟩::m else m):=by
          cases hrd:(draw && sh.1.isRead)with
          | true=>exact .cons (f3 hrd) f2
          | false=>exact f2
        obtain⟨R',t1,t2⟩:=ih _ _ items' loc1 var1 s1 var' s' _ _ hc' f6 f1 hm'
        refine⟨R',.cons ho ⟨⟨sh.2,hsh,has⟩,hw,rfl,f4,st1,st2⟩ ?_ t1,t2⟩
        intro hd he hwt r hr1 hr2 hr3
        rw[hwt,hd,he]at f5
        simp only[cond_true]at f5
        exact Wp f2 f5 r hr1 (fun r' e=>by rw[e,hr2];rfl) hr3
      have newRd:∀ (loc1:List AV),loc1=v::loc→q.2.cnt=c.cnt+1→IM loc1 var q.2.cnt (i,{ guard:=g,sh:=sh.1,xs,ans:=.loc c.cnt }) ⟨i,sh.1,EI loc var (xs.map (Cf c.cnt)),v,Bl loc var (Hg c.cnt g)⟩:=by
        intro loc1 e1 e2
        subst e1
        rw[e2]
        have hbx:∀x∈xs,OD c.cnt x:=by
          have:∀ (l:List Operand) (xs:List CX),Hz vars c l=some xs→∀x∈xs,OD c.cnt x:=by
            intro l
            induction l with
            | nil=>intro xs h;injection h with h;subst h;intro x hx;cases hx
            | cons a l ih =>
              intro xs h
              simp only[Hz,qJ]at h
              obtain⟨y,h1,r,h2,h3⟩:=h
              injection h3 with h3
              subst h3
              intro x hx
              cases hx with
              | head=>exact ML hr h1
              | tail _ hx=>exact ih r h2 x hx
          exact this _ _ hxs
        refine⟨rfl,rfl,JX hbx,?_,?_,fun x hx=>(hbx x hx).succ,⟨c.cnt,rfl,qn _⟩,fun x b e=>(hgb x b e).succ⟩
        · simp only[Cf,Du]
          rw[show c.cnt+1 - 1 - c.cnt=0 from by omega]
          rfl
        · cases g with
          | none=>rfl
          | some g =>
            obtain⟨x,b⟩:=g
            simp only[Hg,Bl]
            rw[E9 (hgb x b rfl)]
      have ifsome:∀ {α:Type} {c:Bool} {x:Option α} {y:α},(bif c then x else none)=some y→c=true∧x=some y:=by
        intro α c x y h
        cases c with
        | true=>exact⟨rfl,h⟩
        | false=>cases h
      split at hq
      · rename_i hd
        injection hq with hq
        subst hq
        simp only[DE]at st3
        obtain⟨k1,k2⟩:=ifsome st3
        have hput:R.put o.dst v=R:=by rw[hd];rfl
        exact fin (v::loc) var (by rw[hput];exact hr.pushNone v) (hm.push v) (fun _=>newRd _ rfl rfl) (fun d e=>by rw[hd]at e;cases e) k1 k2
      · rename_i d hd
        obtain⟨hlt,hq⟩:=AJ hq
        have hlt:d<nt:=by simpa[qj]using hlt
        have hdl:∀d',o.dst=some d'→d'<nt:=fun d' e=>by rw[hd]at e;injection e with e;subst e;exact hlt
        split at hq
        · rename_i j hj
          obtain⟨hal,hq⟩:=AJ hq
          injection hq with hq
          subst hq
          simp only[Bool.and_eq_true]at hal
          simp only[DE]at st3
          obtain⟨k1,k2⟩:=ifsome st3
          refine fin loc (Mq v var j) (by rw[hd];exact hr.set v hj hal.1) (hm.set v hal.2) ?_ hdl k1 k2
          intro hrd
          rw[hrd]at hpush
          cases hpush
        · rename_i hj
          injection hq with hq
          subst hq
          simp only[DE]at st3
          obtain⟨k1,k2⟩:=ifsome st3
          exact fin (v::loc) var (by rw[hd];exact hr.push v hj) (hm.push v) (fun _=>newRd _ rfl rfl) hdl k1 k2
def Ps(r:Option Nat):Fence:={ Fence.wide with round:=r }
def FF(ρ:Bp)(R:CJ)(tmps:Array Value):Prop:=∀ (t:Tmp)(v:AV),R t=some v→t<tmps.size∧Aa ρ v (tmps.getD t undef)
def GI(P:Program)(ρ:Bp)(s:AF)(w:World)(v:AV)(s1:AF):Ending→World→Prop
 | .returned v',w'=>∃ρ',Aa ρ' v v'∧Bu P ρ' s1 w'∧Fr ρ s w ρ' s1 w'
 | _,_=>False
inductive Dx (P:Program) (ρ:Bp) (s:AF) (w:World) (v:AV) (s1:AF):Result Next→Prop
 | value {v':Value} {w':World} {ρ':Bp} (hv:Aa ρ' v v') (hi:Bu P ρ' s1 w') (hf:Fr ρ s w ρ' s1 w'):Dx P ρ s w v s1 (.ok (.value v') w')
 | skip {w':World} {ρ':Bp} (hv:Aa ρ' v undef) (hi:Bu P ρ' s1 w') (hf:Fr ρ s w ρ' s1 w'):Dx P ρ s w v s1 (.ok .skip w')
 | enter {f:FuncId} {args:Array Value} (h:CallsIn Fence.wide 0 P f args w (GI P ρ s w v s1)):Dx P ρ s w v s1 (.ok (.enter f args) w)
 | round {l:Nat} {f:FuncId} {tmps:Array Value} {assign body:Code} (h:RoundIn Fence.wide 0 P l f tmps assign body w (GI P ρ s w v s1)):Dx P ρ s w v s1 (.ok (.round l f tmps assign body) w)
def Bm(ρ:Bp)(s:AF):Prop:=∀i,s.next≤i→ρ i=none∧s.heap.get i=none
structure cc(P:Program)(F:EF):Prop where
 call:∀ (ρ:Bp) (s:AF) (w:World) (f:FuncId) (aS:List AV) (v:AV) (s1:AF) (as':Array Value),F.call f aS s=some (v,s1)→Bu P ρ s w→Bm ρ s→AY ρ aS as'.toList →
  Dx P ρ s w v s1 ((callFunc f as').run P w)
 round:∀ (ρ:Bp) (s:AF) (w:World) (l:Nat) (rb:RB) (aS:List AV) (v:AV) (s1:AF) (as':Array Value),F.round l aS s=some (v,s1)→Bu P ρ s w→Bm ρ s→ρ l=some rb→AY ρ aS as'.toList →
  Dx P ρ s w v s1 ((Instr.yield rb.b as').run P w)
section
variable{P:Program}{ρ ρ1 ρ2:Bp}{s s1 s2:AF}{w w1 w2:World}{R:CJ}{a:Act}{ops:Array Oper}
theorem FF.mono{tmps:Array Value}(h:FF ρ R tmps)(le:ρ.le ρ1):FF ρ1 R tmps:=fun t v hv=>⟨(h t v hv).1,(h t v hv).2.mono le⟩
theorem QS(h:FF ρ R a.tmps){o:Operand}{v:AV}(hv:QR R o=some v):Aa ρ v (a.eval o):=by
 cases o with
 | tmp t=>exact(h t v hv).2
 | const c=>exact CE ρ hv
 | global g=>cases hv
 | func f=>injection hv with hv;subst hv;exact .func .nil .nil
theorem Jv(h:FF ρ R a.tmps):∀ {xs:List Operand}{aS:List AV},ER R xs=some aS→AY ρ aS (xs.map a.eval)
 | [],aS,e=>by injection e with e;subst e;exact .nil
 | x::l,aS,e=>by
  simp only[ER,qJ]at e
  obtain⟨v,h1,r,h2,h3⟩:=e
  injection h3 with h3
  subst h3
  exact .cons (QS h h1) (Jv h h2)
theorem Fw(a:Act)(d:Option Tmp)(v:Value):(a.put d v).tmps.size=a.tmps.size:=by cases d<;>simp[Act.put]
theorem MT(a:Act)(d:Option Tmp)(v:Value):(a.put d v).defers=a.defers:=by cases d<;>rfl
theorem FF.put   (h : FF   ρ R a.tmps) {d : Option Tmp} {v : AV} {v' : Value} (hd : ∀ t, d = some t → t < a.tmps.size) (hv : Aa   ρ v v') : FF   ρ (R.put d v) (a.put d v').tmps := by
  cases d with
  | none=>exact h
  | some d =>
    intro t u hu
    simp only[Act.put,Array.size_setIfInBounds]
    by_cases e:t=d
    · subst e
      simp only[CJ.put,if_true,Option.some.injEq]at hu
      subst hu
      have:=hd t rfl
      exact⟨this,by simpa[Array.getD_eq_getD_getElem?,this]using hv⟩
    · simp only[CJ.put,if_neg e]at hu
      have:=h t u hu
      refine⟨this.1,?_⟩
      have e2:(a.tmps.setIfInBounds d v').getD t undef=a.tmps.getD t undef:=by
        simp[Array.getD_eq_getD_getElem?,Array.getElem?_setIfInBounds_ne (Ne.symm e)]
      rw[e2]
      exact this.2
theorem N0(h:FF ρ R a.tmps){o:Oper}{want:Bool}(hw:I8 ops R o=some want):Region.wanted o (yielded ops a.tmps)=want:=by
  unfold I8 at hw
  unfold Region.wanted
  split at hw
  · rename_i hg;rw[hg];injection hw
  · rename_i j b hg
    rw[hg]
    simp only[qJ]at hw
    obtain⟨p,h1,d,h2,x,h3,h4⟩:=hw
    injection h4 with h4
    subst h4
    obtain⟨hlt,hv⟩:=h d x h3
    have hy:yielded ops a.tmps j=(match a.tmps.getD d undef with | .bool b=>some b | _=>none):=by
      unfold yielded
      rw[h1]
      simp only[Option.bind_some,h2]
      rw[Array.getElem?_eq_getElem hlt,show a.tmps.getD d undef=a.tmps[d]from by simp[Array.getD_eq_getD_getElem?,hlt]]
      cases a.tmps[d]<;>rfl
    simp only[hy]
    generalize a.tmps.getD d undef=y at hv
    cases hv<;>first | rfl | (rename_i c;cases c<;>cases b<;>rfl)
theorem aK{F:EF}(hF:cc P F)(h:Bu P ρ s w)(hf:Bm ρ s){f v:AV}{f':Value}{aS:List AV}{as':Array Value}(hc:Gy F f aS s=some (v,s1))(hv:Aa ρ f f')(ha:AY ρ aS as'.toList):
  Dx P ρ s w v s1 ((do let d ← Deferred.ofValue f' as';invoke d.target d.args:Sem Next).run P w):=by
 unfold Gy at hc
 split at hc<;>first | (cases hc;done) | skip
 ·cases hv with
  | func h1 h2 =>
   rename_i f x c x' c'
   have:=hF.call ρ s w f _ v s1 ((x'++as')++c') hc h hf (by simpa using h1.append (ha.append h2))
   simpa[Deferred.ofValue,invoke]using this
 ·cases hv with
  | yield h1 =>
   rename_i l rb
   have:=hF.round ρ s w l rb _ v s1 as' hc h hf h1 ha
   simpa[Deferred.ofValue,invoke]using this
theorem Ce.next{sem:Sem Next}{v:AV}(h:Ce P ρ s w sem v s1):Dx P ρ s w v s1 (sem.run P w):=by
 obtain⟨v',w',ρ',h1,h2,h3,h4⟩:=h
 rcases h1 with h1 | ⟨h1,e⟩
 ·rw[h1];exact .value h2 h3 h4
 ·subst e;rw[h1];exact .skip h2 h3 h4
theorem WQ        {F : EF}  (hF : cc  P F) (h : Bu  P ρ s w) (hf : Bm     ρ s) {o : Oper} {sh : Sh} {xs : List Operand} {aS : List AV} {v : AV} {ev : Operand → Value} (hev : ∀ f, ev (.func f) = .func (.func f) #[] #[]) (hsh : BW      P o.op = some (sh, xs)) (ha : AY    ρ aS (xs.map ev)) (hr : cY  F sh aS s = some (v, s1)) :
    Dx P ρ s w v s1 ((execOp ev o).run P w):=by
  have plain:J3 sh aS s=some (v,s1)→Dx P ρ s w v s1 ((execOp ev o).run P w):=fun hl=>(kK h (hf _ (qI _)).1 hsh ha hl).next
  have calls:(∀f,sh≠.call f)→sh≠.callv→Dx P ρ s w v s1 ((execOp ev o).run P w):=by
    intro h1 h2
    refine plain ?_
    cases sh<;>first | exact hr | exact absurd rfl (h1 _) | exact absurd rfl h2
  have isCall:(∃f,sh=.call f)∨sh=.callv→∃c,o.op=.call c:=by
    intro hc
    cases ho:o.op<;>rw[ho]at hsh<;>first | exact⟨_,rfl⟩ | (simp[BW]at hsh;done) | skip
    case binOp op t x y f =>
      simp only[BW]at hsh
      split at hsh<;>(injection hsh with hsh;injection hsh with e1 e2;subst e1;rcases hc with⟨_,hc⟩ | hc<;>cases hc)
    case makeMap t r =>
      cases r with
      | some _=>cases hsh
      | none=>injection hsh with hsh;injection hsh with e1 e2;subst e1;rcases hc with⟨_,hc⟩ | hc<;>cases hc
    case makeFunc fn first captured =>
      cases fn with
      | func f=>injection hsh with hsh;injection hsh with e1 e2;subst e1;rcases hc with⟨_,hc⟩ | hc<;>cases hc
      | _=>cases hsh
    all_goals (injection hsh with hsh;injection hsh with e1 e2;subst e1;rcases hc with⟨_,hc⟩ | hc<;>cases hc)
  by_cases hc:(∃f,sh=.call f)∨sh=.callv
  · obtain⟨⟨callee,args,argTypes⟩,ho⟩:=isCall hc
    rw[ho]at hsh
    have hx:∀g,callee=.value g→execOp ev o=(do let d ← Deferred.ofValue (ev g) (args.map ev);invoke d.target d.args):=by
      intro g hg
      subst hg
      simp only[execOp,ho,resolve]
    have notB:∀b,callee≠.builtin b:=by
      intro b e
      subst e
      simp only[BW]at hsh
      split at hsh<;>first | (cases hsh;done) | skip
      all_goals first
        | (injection hsh with hsh;injection hsh with e1 e2;subst e1;rcases hc with⟨_,hc⟩ | hc<;>cases hc;done)
        | (split at hsh<;>first | (cases hsh;done) | (injection hsh with hsh;injection hsh with e1 e2;subst e1;rcases hc with⟨_,hc⟩ | hc<;>cases hc;done))
    simp only[BW]at hsh
    split at hsh
    · rename_i f
      injection hsh with hsh;injection hsh with e1 e2;subst e1;subst e2
      rw[hx _ rfl,hev]
      have:=hF.call ρ s w f aS v s1 (args.map ev) hr h hf (by simpa using ha)
      simpa[Deferred.ofValue,invoke]using this
    · rename_i x _
      injection hsh with hsh;injection hsh with e1 e2;subst e1;subst e2
      rw[hx _ rfl]
      cases ha with
      | cons h1 h2=>exact aK hF h hf hr h1 (by simpa using h2)
    · cases hsh
    · exact absurd rfl (notB _)
  · exact calls (fun f e=>hc (.inl ⟨f,e⟩)) (fun e=>hc (.inr e))
end
section
variable{P:Program}{ρ ρ1 ρ2:Bp}{s s1 s2:AF}{w w1 w2:World}{R:CJ}{a:Act}{ops:Array Oper}{rnd:Option Nat}{Q:Exit→Act→World→Prop}
theorem KD{n:Nat}{f:FuncId}{args:Array Value}{Rr:Ending→World→Prop}(h:CallsIn Fence.wide n P f args w Rr):CallsIn (Ps rnd) n P f args w Rr:=h
theorem QX{n l:Nat}{f:FuncId}{tmps:Array Value}{assign body:Code}{Rr:Ending→World→Prop}(h:RoundIn Fence.wide n P l f tmps assign body w Rr):RoundIn (Ps rnd) n P l f tmps assign body w Rr:=h
theorem Bm.step(h:Bm ρ s)(k:Fr ρ s w ρ1 s1 w1):Bm ρ1 s1:=fun i hi =>
 ⟨k.fresh i (h i (qV k.next hi)).1 (.inr hi),(k.unborn i (h i (qV k.next hi)).1 (.inr hi)).trans (h i (qV k.next hi)).2⟩
theorem Ng{o:Oper}{v:AV}{K:Act→World→Prop}{r:Result Next}(h:Dx P ρ s w v s1 r)
    (hk:∀v' w' ρ',Aa ρ' v v'→Bu P ρ' s1 w'→Fr ρ s w ρ' s1 w'→K (a.put o.dst v') w'):o.uponIn (Ps rnd) 0 P a K Q r:=by
  cases h with
  | value hv hi hf=>exact hk _ _ _ hv hi hf
  | skip hv hi hf=>exact hk _ _ _ hv hi hf
  | enter h =>
    refine⟨fun e=>(by cases e),KD (CallsIn.mono h ?_)⟩
    intro e w' he
    cases e with
    | returned v'=>obtain⟨ρ',h1,h2,h3⟩:=he;exact hk _ _ _ h1 h2 h3
    | panicked c=>exact he.elim
    | outgrown=>exact he.elim
  | round h =>
    refine⟨fun e=>(by cases e),QX (RoundIn.mono h ?_)⟩
    intro e w' he
    cases e with
    | returned v'=>obtain⟨ρ',h1,h2,h3⟩:=he;exact hk _ _ _ h1 h2 h3
    | panicked c=>exact he.elim
    | outgrown=>exact he.elim
theorem Nh{o:Oper}{x:Sh×List Operand}(h:BW P o.op=some x):∀c,o.op≠.defer c:=by
 intro c e
 rw[e]at h
 simp[BW]at h
theorem U7{F:EF}(hF:cc P F)(h:Bu P ρ s w)(hf:Bm ρ s){nt i:Nat}{o:Oper}{sh:Sh}{want:Bool}{aS:List AV}{v:AV}{R1:CJ}{K:Act→World→Prop}(ho:ops[i]? = some o)
  (hs:Kz P F ops nt R s o sh want aS v R1 s1) (hr:FF ρ R a.tmps) (hnt:nt≤a.tmps.size)
  (hk:∀v' w' ρ',Aa ρ' v v'→Bu P ρ' s1 w'→Fr ρ s w ρ' s1 w'→K (a.put o.dst v') w'):wpOpIn (Ps rnd) 0 P ops Q i K a w:=by
 unfold wpOpIn
 rw[ho]
 simp only
 obtain⟨xs,hsh,has⟩:=hs.shape
 rw[N0 hr hs.wants]
 cases want with
 | true =>
  simp only[if_true]
  refine⟨fun _ _=>trivial,?_⟩
  rw[Oper.semAt_eq _ _ _ (Nh hsh)]
  exact Ng (WQ hF h hf (fun _=>rfl) hsh (Jv hr has) (hs.yes rfl)) hk
 | false =>
  simp only[Bool.false_eq_true,if_false]
  refine⟨fun _ _=>trivial,?_⟩
  obtain⟨rfl,rfl⟩:=hs.no rfl
  exact hk undef w ρ (Ds ρ) h (Fr.refl _ _ _)
theorem WT        {F : EF}  (hF : cc  P F) {nt : Nat} {b : Array Nat} {draw : Bool} {R2 : CJ}   :
    ∀ {l:List Nat} {m:List RS} {R:CJ} {s:AF} {ρ:Bp} {a:Act} {w:World},Trace P F ops nt b draw l m R s R2 s2→Bu P ρ s w→Bm ρ s→FF ρ R a.tmps→nt≤a.tmps.size →
      (∀a' w' ρ',Bu P ρ' s2 w'→Bm ρ' s2→Fr ρ s w ρ' s2 w'→FF ρ' R2 a'.tmps→a'.tmps.size=a.tmps.size→a'.defers=a.defers→Q .normal a' w') →
      wpOpsIn (Ps rnd) 0 P ops Q l a w:=by
  intro l
  induction l with
  | nil =>
    intro m R s ρ a w ht h hf hr hnt hq
    cases ht
    exact hq a w ρ h hf (Fr.refl _ _ _) hr rfl rfl
  | cons i l ih =>
    intro m R s ρ a w ht h hf hr hnt hq
    cases ht with
    | cons ho hs ag hl =>
      rename_i R1 s1 o sh want aS v
      rw[wpOpsIn_cons]
      refine U7 hF h hf ho hs hr hnt ?_
      intro v' w' ρ' h1 h2 h3
      refine ih hl h2 (hf.step h3) ?_ (by rw[Fw];exact hnt) ?_
      · rw[hs.put]
        exact(hr.mono h3.le).put (fun t e=>qi (hs.lt t e) hnt) h1
      · intro a' w'' ρ'' g1 g2 g3 g4 g5 g6
        exact hq a' w'' ρ'' g1 g2 (h3.trans g3) g4 (by rw[g5,Fw]) (by rw[g6,MT])
end
def Ez(acc:Array Nat)(o:Oper):Nat:=o.after.foldl (fun s e=>if Region.binds .any e then s ||| 2 ^ e.on ||| acc.getD e.on 0 else s) 0
theorem OA           (acc : Array Nat) (o : Oper) (k : Nat) (h : (Ez      acc o).testBit k = true) : ∃ e ∈ o.after, Region.binds .any e = true ∧ (k = e.on ∨ (acc.getD e.on 0).testBit k = true) := by
  unfold Ez at h
  rw[← Array.foldl_toList]at h
  have key:∀ (l:List Edge) (s:Nat),(l.foldl (fun s e=>if Region.binds .any e then s ||| 2 ^ e.on ||| acc.getD e.on 0 else s) s).testBit k=true →
      s.testBit k=true∨∃e∈l,Region.binds .any e=true∧(k=e.on∨(acc.getD e.on 0).testBit k=true):=by
    intro l
    induction l with
    | nil=>intro s h;exact .inl h
    | cons e l ih =>
      intro s h
      simp only[q0]at h
      rcases ih _ h with h | ⟨e',he',h1,h2⟩
      · by_cases hb : Region.binds .any e = true
        · rw[if_pos hb]at h
          simp only[Nat.testBit_or,Bool.or_eq_true,Nat.testBit_two_pow]at h
          rcases h with(h | h) | h
          · exact .inl h
          · exact .inr ⟨e,qR,hb,.inl (by simpa using (of_decide_eq_true h).symm)⟩
          · exact .inr ⟨e,qR,hb,.inr h⟩
        · rw[if_neg hb]at h
          exact .inl h
      · exact .inr ⟨e',qS _ he',h1,h2⟩
  rcases key _ _ h with h | ⟨e,he,h1,h2⟩
  · simp at h
  · exact⟨e,Array.mem_toList_iff.1 he,h1,h2⟩
theorem PS          (ops : Array Oper) : ∀ i k, ((Region.before ops).getD i 0).testBit k = true → ∃ o, ops[i]? = some o ∧ ∃ e ∈ o.after, Region.binds .any e = true ∧ (k = e.on ∨ ((Region.before ops).getD e.on 0).testBit k = true) := by
  have key:∀ (l pre:List Oper) (acc:Array Nat),acc.size=pre.length →
      (∀i k,(acc.getD i 0).testBit k=true→∃o,pre[i]? = some o∧∃e∈o.after,Region.binds .any e=true∧(k=e.on∨(acc.getD e.on 0).testBit k=true)) →
      ∀i k,((l.foldl (fun acc o=>acc.push (Ez acc o)) acc).getD i 0).testBit k=true→∃o,(pre++l)[i]? = some o∧∃e∈o.after,Region.binds .any e=true∧(k=e.on∨((l.foldl (fun acc o=>acc.push (Ez acc o)) acc).getD e.on 0).testBit k=true):=by
    intro l
    induction l with
    | nil=>intro pre acc hs h;simpa using h
    | cons o l ih =>
      intro pre acc hs h
      simp only[q0]
      have:=ih (pre++[o]) (acc.push (Ez acc o)) (by simp[hs]) ?_
      · simpa using this
      · have up:∀j k,(acc.getD j 0).testBit k=true→((acc.push (Ez acc o)).getD j 0).testBit k=true:=by
          intro j k hj
          rcases qN j acc.size with hlt | hge
          · simpa[Array.getD_eq_getD_getElem?,Array.getElem?_push,Nat.ne_of_lt hlt]using hj
          · simp[Array.getD_eq_getD_getElem?,Array.getElem?_eq_none hge]at hj
        intro i k hi
        rcases rP i acc.size with hlt | heq | hgt
        · have hi':(acc.getD i 0).testBit k=true:=by
            simpa[Array.getD_eq_getD_getElem?,Array.getElem?_push,Nat.ne_of_lt hlt]using hi
          obtain⟨o',h1,e,h2,h3,h4⟩:=h i k hi'
          refine⟨o',?_,e,h2,h3,h4.imp id (up _ _)⟩
          rw[qX (by omega)]
          exact h1
        · subst heq
          have hi':(Ez acc o).testBit k=true:=by
            simpa[Array.getD_eq_getD_getElem?]using hi
          obtain⟨e,h2,h3,h4⟩:=OA acc o k hi'
          refine⟨o,?_,e,h2,h3,h4.imp id (up _ _)⟩
          rw[hs]
          simp
        · have:(acc.push (Ez acc o))[i]? = none:=Array.getElem?_eq_none (by simp;omega)
          simp[Array.getD_eq_getD_getElem?,this]at hi
  intro i k h
  have h0:Region.before ops=ops.toList.foldl (fun acc o=>acc.push (Ez acc o)) #[]:=by
    unfold Region.before
    rw[← Array.foldl_toList]
    rfl
  rw[h0]at h ⊢
  obtain⟨o,h1,h2⟩:=key ops.toList [] #[] rfl (by intro i k h;simp at h) i k h
  exact⟨o,by simpa using h1,h2⟩
theorem Vp{P:Program}{o:Oper}{sh:Sh}{xs:List Operand}(h:BW P o.op=some (sh,xs)){t:Tmp}(ht:Operand.tmp t∈xs):t∈GT P o:=by
 unfold GT
 rw[h]
 refine ql _ (List.mem_filterMap.2 ⟨.tmp t,ht,rfl⟩)
structure JG(P:Program)(ops:Array Oper)(b:Array Nat)(π:List Nat):Prop where
 len:π.length=ops.size
 lt:∀p i:Nat,π[p]? = some i→i<ops.size
 inj:∀p q i:Nat,π[p]? = some i→π[q]? = some i→p=q
 edge:∀ (p i:Nat) (o:Oper),π[p]? = some i→ops[i]? = some o→∀e∈o.after,Region.binds .any e=true→∃q,q<p∧π[q]? = some e.on
 eff:∀ (p q i j:Nat) (o:Oper),π[p]? = some i→π[q]? = some j→q<p→ops[j]? = some o→Pp P o=true→(b.getD i 0).testBit j=true
 guard:∀ (p i:Nat) (o:Oper) (j:Nat) (w:Bool),π[p]? = some i→ops[i]? = some o→o.guard=some (j,w)→(b.getD i 0).testBit j=true
 wdst:∀ (p q i j:Nat) (o u:Oper) (d:Tmp),π[p]? = some i→π[q]? = some j→q<p→ops[i]? = some o→ops[j]? = some u→o.dst=some d→u.dst≠some d∧(d∈GT P u→(b.getD i 0).testBit j=true)
 rdst:∀ (p q i j:Nat) (o u:Oper) (d:Tmp),π[p]? = some i→π[q]? = some j→q<p→ops[i]? = some o→ops[j]? = some u→u.dst=some d→d∈GT P o→(b.getD i 0).testBit j=true
theorem MQ{P:Program}{ops:Array Oper}{b:Array Nat}:∀ {l bef:List Nat},FU P ops b bef l=true →
  (bef++l).length=ops.size∧∀p i:Nat,l[p]? = some i→PC P ops b (bef++l.take p) i=true:=by
 intro l
 induction l with
 | nil=>intro bef h;exact⟨by simpa using A3 h,fun p i e=>by simp at e⟩
 | cons a l ih =>
  intro bef h
  simp only[FU,Bool.and_eq_true]at h
  obtain⟨h1,h2⟩:=ih h.2
  refine⟨by simpa using h1,?_⟩
  intro p i e
  cases p with
  | zero=>simp at e;subst e;simpa using h.1
  | succ p=>simpa using h2 p i (by simpa using e)
theorem EJ{ops:Array Oper}{i:Nat}{o:Oper}(h:ops[i]? = some o):ops.getD i default=o:=by simp[Array.getD_eq_getD_getElem?,h]
theorem GA{l:List Nat}{p j:Nat}:j∈l.take p↔∃q,q<p∧l[q]? = some j:=by
  rw[List.mem_iff_getElem?]
  constructor
  · rintro ⟨q, hq⟩
    rw[rZ]at hq
    split at hq
    · exact⟨q,by assumption,hq⟩
    · cases hq
  · rintro⟨q,hlt,hq⟩
    exact⟨q,by rw[rZ,if_pos hlt];exact hq⟩
theorem Ju{P:Program}{ops:Array Oper}{b:Array Nat}{π:List Nat}(h:FU P ops b [] π=true):JG P ops b π:=by
 obtain⟨hlen,hst⟩:=MQ h
 simp only[qo]at hlen hst
 have parts:=fun(p i:Nat) (e:π[p]? = some i)=>by
  have:=hst p i e
  unfold PC at this
  simpa only[Bool.and_eq_true,Bool.not_eq_true',Array.all_eq_true_iff_forall_mem,List.all_eq_true,Bool.or_eq_true]using this
 refine⟨hlen,?_,?_,?_,?_,?_,?_,?_⟩
 ·intro p i e
  have:=(parts p i e).1.1.1.1.1.1
  simpa[qj]using this
 ·have one:∀p q i:Nat,π[p]? = some i→π[q]? = some i→q<p→False:=by
   intro p q i e1 e2 hlt
   have:=(parts p i e1).1.1.1.1.1.2
   have hm:i∈π.take p:=GA.2 ⟨q,hlt,e2⟩
   rw[List.contains_iff_mem.2 hm]at this
   cases this
  intro p q i e1 e2
  rcases rP p q with h' | h' | h'
  ·exact(one q p i e2 e1 h').elim
  ·exact h'
  ·exact(one p q i e1 e2 h').elim
 ·intro p i o e ho ed hed hb
  have:=(parts p i e).1.1.1.2
  rw[EJ ho]at this
  rcases this ed hed with h' | h'
  ·rw[hb]at h';cases h'
  ·exact GA.1 (List.contains_iff_mem.1 h')
 ·intro p q i j o e1 e2 hlt ho he
  have:=(parts p i e1).1.1.2 j (GA.2 ⟨q,hlt,e2⟩)
  rw[EJ ho,he]at this
  exact this.resolve_left (by simp)
 ·intro p i o j w e ho hg
  have:=(parts p i e).1.2
  rw[EJ ho]at this
  exact this j (by simp[Uq,hg])
 ·intro p q i j o u d e1 e2 hlt ho hu hd
  have:=((parts p i e1).2 j (GA.2 ⟨q,hlt,e2⟩)).1
  rw[EJ ho,EJ hu,hd]at this
  simp only[Bool.and_eq_true,Bool.or_eq_true,Bool.not_eq_true',bne_iff_ne,ne_eq]at this
  refine⟨this.1,fun hm=>?_⟩
  rcases this.2 with h' | h'
  ·rw[List.contains_iff_mem.2 hm]at h';cases h'
  ·exact h'
 ·intro p q i j o u d e1 e2 hlt ho hu hd hm
  have:=((parts p i e1).2 j (GA.2 ⟨q,hlt,e2⟩)).2
  rw[EJ ho,EJ hu,hd]at this
  simp only[Bool.or_eq_true,Bool.not_eq_true']at this
  rcases this with h' | h'
  ·rw[List.contains_iff_mem.2 hm]at h';cases h'
  ·exact h'
theorem QJ       : ∀ (m : Nat) (l : List Nat), l.Nodup → (∀ x ∈ l, x < m) → l.length ≤ m := by
  intro m
  induction m with
  | zero =>
    intro l _ h
    cases l with
    | nil=>simp
    | cons a l=>exact absurd (h a qR) (by omega)
  | succ m ih =>
    intro l hn h
    by_cases hm:m∈l
    · have h1:=ih (l.erase m) (hn.erase m) (fun x hx=>by
        have hx:=(hn.mem_erase_iff).1 hx
        have:=h x hx.2
        have:=hx.1
        omega)
      rw[List.length_erase_of_mem hm]at h1
      omega
    · have:=ih l hn (fun x hx=>by
        have:=h x hx
        have:x≠m:=fun e=>hm (e▸hx)
        omega)
      omega
theorem JG.onto     {P : Program} {ops : Array Oper} {b : Array Nat} {π : List Nat} (h : JG     P ops b π) {i : Nat} (hi : i < ops.size) : ∃ p : Nat, π[p]? = some i := by
  have hn:π.Nodup:=by
    refine List.pairwise_iff_getElem.2 ?_
    intro p q hp hq hpq e
    have:=h.inj p q (π[q]) (by rw[qP hp,e]) (qP hq)
    omega
  by_cases hm:i∈π
  · exact List.mem_iff_getElem?.1 hm
  · have hn' : (i :: π).Nodup := rf.2              ⟨hm, hn⟩
    have:=QJ ops.size (i::π) hn' (fun x hx=>by
      rcases qp.1 hx with rfl | hx
      · exact hi
      · obtain⟨p,hp⟩:=List.mem_iff_getElem?.1 hx
        exact h.lt p x hp)
    simp only[qh,h.len]at this
    omega
structure M9 where
 R:Nat→CJ
 st:Nat→AF
 o:Nat→Oper
 sh:Nat→Sh
 want:Nat→Bool
 aS:Nat→List AV
 v:Nat→AV
structure PT(P:Program)(F:EF)(ops:Array Oper)(nt:Nat)(b:Array Nat)(π:List Nat)(D:M9):Prop where
 op:∀p i:Nat,π[p]? = some i→ops[i]? = some (D.o p)
 step:∀p,p<π.length→Kz P F ops nt (D.R p) (D.st p) (D.o p) (D.sh p) (D.want p) (D.aS p) (D.v p) (D.R (p+1)) (D.st (p+1))
 ag:∀p q i j:Nat,π[p]? = some i→π[q]? = some j→q<p→(D.sh p).isEff=true→D.want p=true→(D.sh q).isRead=true→(b.getD i 0).testBit j=false→D.want q=true →
  Ev (D.sh q) (D.aS q) (D.st (p+1))=some (D.v q)
def Hn{α:Type}(a:α)(f:Nat→α):Nat→α
 | 0=>a
 | p+1=>f p
theorem cS       {P : Program} {F : EF}  {ops : Array Oper} {nt : Nat} {b : Array Nat} {l : List Nat} {m : List RS}  {R R2 : CJ}   {s s2 : AF}  (h : Trace P F ops nt b true l m R s R2 s2) :
    ∃D:M9,PT P F ops nt b l D∧D.R 0=R∧D.st 0=s∧D.R l.length=R2∧D.st l.length=s2 ∧
      (∀p i:Nat,l[p]? = some i→(D.sh p).isEff=true→D.want p=true→∀r∈m,(b.getD i 0).testBit r.idx=false→r.want=true→Ev r.sh r.aS (D.st (p+1))=some r.v):=by
  induction h with
  | nil =>
    rename_i m R s
    exact⟨⟨fun _=>R,fun _=>s,fun _=>default,fun _=>.callv,fun _=>false,fun _=>[],fun _=>BJ⟩,
      ⟨by intro p i h;simp at h,by intro p h;simp at h,by intro p q i j h;simp at h⟩,rfl,rfl,rfl,rfl,by intro p i h;simp at h⟩
  | cons ho hs ag hl ih =>
    rename_i i l m R R1 R2 s s1 s2 o sh want aS v
    obtain⟨D,h1,h2,h3,h4,h5,h6⟩:=ih
    refine⟨⟨Hn R D.R,Hn s D.st,Hn o D.o,Hn sh D.sh,Hn want D.want,Hn aS D.aS,Hn v D.v⟩,⟨?_,?_,?_⟩,rfl,rfl,h4,h5,?_⟩
    · intro p j hp
      cases p with
      | zero=>simp at hp;subst hp;exact ho
      | succ p=>exact h1.op p j (by simpa using hp)
    · intro p hp
      cases p with
      | zero=>simp only[Hn,h2,h3];exact hs
      | succ p=>exact h1.step p (by simpa using hp)
    · intro p q j k hp hq hlt he hw hr ht hwq
      cases p with
      | zero=>omega
      | succ p =>
        cases q with
        | zero =>
          simp at hq
          subst hq
          simp only[Hn]at hr hwq he hw ⊢
          refine h6 p j (by simpa using hp) he hw ⟨i,sh,aS,v,want⟩ ?_ ht hwq
          rw[hr]
          exact qR
        | succ q=>exact h1.ag p q j k (by simpa using hp) (by simpa using hq) (by omega) he hw hr ht hwq
    · intro p j hp he hw r hr ht hwr
      cases p with
      | zero =>
        simp at hp
        subst hp
        simp only[Hn,h3]at he hw ⊢
        exact ag rfl he hw r hr ht hwr
      | succ p =>
        refine h6 p j (by simpa using hp) he hw r ?_ ht hwr
        cases hb:(true && sh.isRead)with
        | true=>exact qS _ hr
        | false=>exact hr
theorem KQ{sh:Sh}{aS:List AV}{s:AF}{v:AV}(h:Ev sh aS s=some v):J3 sh aS s=some (v,s):=by
  cases sh with
  | r1 f =>
    cases aS with
    | nil=>cases h
    | cons a l =>
      cases l with
      | nil=>have h:f s a=some v:=h;simp[J3,h,EE]
      | cons=>cases h
  | r f=>have h:f s aS=some v:=h;simp[J3,h,EE]
  | _=>cases h
theorem KO          {P : Program} {R : CJ}   {o : Op} {sh : Sh} {xs : List Operand} {aS : List AV} {s s1 : AF}  {v : AV} (hsh : BW      P o = some (sh, xs)) (he : ER     R xs = some aS) (hr : sh.isRead = true) (h : J3  sh aS s = some (v, s1)) :
    Ev sh aS s=some v∧s1=s:=by
  have one:∀x:Operand,xs=[x]→∃a,aS=[a]:=by
    intro x e
    subst e
    simp only[ER,qJ]at he
    obtain⟨a,_,r,hr,he⟩:=he
    injection hr with hr
    injection he with he
    subst hr
    exact⟨a,he.symm⟩
  cases sh with
  | r1 f =>
    have:∃x,xs=[x]:=by
      cases o<;>first | (simp[BW]at hsh;done) | skip
      case binOp op t x y f =>
        simp only[BW]at hsh
        split at hsh<;>(injection hsh with hsh;injection hsh with h1 h2;cases h1)
      case load t a=>injection hsh with hsh;injection hsh with h1 h2;exact⟨_,h2.symm⟩
      case convert src dst x=>injection hsh with hsh;injection hsh with h1 h2;exact⟨_,h2.symm⟩
      case makeMap t r=>cases r with
        | some _=>cases hsh
        | none=>injection hsh with hsh;injection hsh with h1 h2;cases h1
      case makeFunc fn first captured=>cases fn<;>first | (cases hsh;done) | (injection hsh with hsh;injection hsh with h1 h2;cases h1)
      case call c =>
        obtain⟨callee,args,argTypes⟩:=c
        simp only[BW]at hsh
        split at hsh<;>first | (cases hsh;done) | skip
        split at hsh<;>first | (cases hsh;done) | skip
        all_goals (split at hsh<;>cases hsh)
    obtain⟨x,hx⟩:=this
    obtain⟨a,rfl⟩:=one x hx
    exact Tv h
  | r f=>exact Ns h
  | _=>cases hr
section
variable{P:Program}{ρ ρ1 ρ2:Bp}{s s1 s2:AF}{w w1 w2:World}{R:CJ}{a:Act}{ops:Array Oper}{rnd:Option Nat}{Q:Exit→Act→World→Prop}
theorem Me{F:EF}(h:Bu P ρ s w)(hf:ρ s.next=none){nt i:Nat}{o:Oper}{sh:Sh}{want:Bool}{aS:List AV}{v:AV}{R1:CJ}{K:Act→World→Prop}(ho:ops[i]? = some o)
  (hs:Kz P F ops nt R s o sh want aS v R1 s1) (hne:sh.isEff=false) (hr:FF ρ R a.tmps) (hnt:nt≤a.tmps.size)
  (hk:∀v' w' ρ',Aa ρ' v v'→Bu P ρ' s1 w'→Fr ρ s w ρ' s1 w'→K (a.put o.dst v') w'):wpOpIn (Ps rnd) 0 P ops Q i K a w:=by
 unfold wpOpIn
 rw[ho]
 simp only
 obtain⟨xs,hsh,has⟩:=hs.shape
 rw[N0 hr hs.wants]
 cases want with
 | true =>
  simp only[if_true]
  refine⟨fun _ _=>trivial,?_⟩
  rw[Oper.semAt_eq _ _ _ (Nh hsh)]
  have hl:J3 sh aS s=some (v,s1):=by
   have:=hs.yes rfl
   cases sh<;>first | exact this | cases hne
  exact Ng (kK h hf hsh (Jv hr has) hl).next hk
 | false =>
  simp only[Bool.false_eq_true,if_false]
  refine⟨fun _ _=>trivial,?_⟩
  obtain⟨rfl,rfl⟩:=hs.no rfl
  exact hk undef w ρ (Ds ρ) h (Fr.refl _ _ _)
theorem Bu.same(h:Bu P ρ s w)(e:∀i rb,ρ i=some rb→s1.heap.get i=s.heap.get i):Bu P ρ s1 w:=
  ⟨fun i o rb hi hr=>h.obj i o rb (by rw[← e i rb hr];exact hi) hr,h.lt,
   fun i j oi oj ri rj hne hi hj hri hrj=>h.sep i j oi oj ri rj hne (by rw[← e i ri hri];exact hi) (by rw[← e j rj hrj];exact hj) hri hrj⟩
theorem Gs.same{b:Nat}(e:∀i rb,ρ i=some rb→s1.heap.get i=s.heap.get i)(h:Gs ρ s1 b):Gs ρ s b:=by
 obtain⟨i,o,rb,h1,h2,h3,h4⟩:=h
 exact⟨i,o,rb,by rw[← e i rb h3];exact h1,h2,h3,h4⟩
end
def Dn(π:List Nat)(listed:Array Bool)(p:Nat):Prop:=∃i:Nat,π[p]? = some i∧listed[i]? = some true
def Sh.isMk:Sh→Bool
 | .mk _=>true
 | _=>false
theorem Tp{P:Program}{ops:Array Oper}{b:Array Nat}{π:List Nat}(h:FU P ops b [] π=true):∀p i j:Nat,π[p]? = some i→j<ops.size→(b.getD i 0).testBit j=true→∃q:Nat,q<p∧π[q]? = some j:=by
 intro p i j hp hj ht
 have:=(MQ h).2 p i hp
 unfold PC at this
 simp only[Bool.and_eq_true,List.all_eq_true,Bool.or_eq_true,Bool.not_eq_true']at this
 have:=this.1.1.1.1.2 j (List.mem_range.2 hj)
 rcases this with h' | h'
 ·rw[ht]at h';cases h'
 ·simpa using GA.1 (List.contains_iff_mem.1 h')
theorem PT.regs_at {P : Program} {F : EF}  {ops : Array Oper} {nt : Nat} {b : Array Nat} {π : List Nat} {D : M9}    (ht : PT P F ops nt b π D) : ∀ p, p ≤ π.length → ∀ t x, D.R p t = some x →
    (∃q,q<p∧(D.o q).dst=some t∧x=D.v q)∨((∀q,q<p→(D.o q).dst≠some t)∧D.R 0 t=some x):=by
  intro p
  induction p with
  | zero=>intro _ t x h;exact .inr ⟨fun q hq=>by omega,h⟩
  | succ p ih =>
    intro hp t x h
    rw[(ht.step p (by omega)).put]at h
    have old:D.R p t=some x→(D.o p).dst≠some t→(∃q,q<p+1∧(D.o q).dst=some t∧x=D.v q)∨((∀q,q<p+1→(D.o q).dst≠some t)∧D.R 0 t=some x):=by
      intro h hne
      rcases ih (by omega) t x h with⟨q,h1,h2,h3⟩ | ⟨h1,h2⟩
      · exact .inl ⟨q,by omega,h2,h3⟩
      · refine .inr ⟨fun q hq => ?_, h2⟩
        rcases qN q p with h' | h'
        · exact h1 q h'
        · have:q=p:=by omega
          subst this;exact hne
    cases hd:(D.o p).dst with
    | none=>rw[hd]at h;exact old h (by rw[hd];simp)
    | some d =>
      rw[hd]at h
      by_cases e:t=d
      · subst e
        simp only[CJ.put,if_true,Option.some.injEq]at h
        exact .inl ⟨p,by omega,hd,h.symm⟩
      · simp only[CJ.put,if_neg e]at h
        exact old h (by rw[hd];intro e';injection e' with e';exact e e'.symm)
theorem Iv{R R':CJ}:∀ {xs:List Operand},(∀t,Operand.tmp t∈xs→R' t=R t)→ER R' xs=ER R xs
 | [],_=>rfl
 | x::l,h=>by
  have h1:QR R' x=QR R x:=by
   cases x with
   | tmp t=>exact h t qR
   | _=>rfl
  simp only[ER,h1,Iv fun t ht=>h t (qS _ ht)]
structure DJ(P:Program)(ops:Array Oper)(b:Array Nat)(π:List Nat)(D:M9)(ρ0:Bp)(w0:World)(a0:Act)(listed:Array Bool)(k:Nat)(ρ:Bp)(a:Act)(w:World):Prop where
 lsz:listed.size=ops.size
 kle:k≤π.length
 dlt:∀p,Dn π listed p→p<k
 eff:∀p,p<k→(D.sh p).isEff=true→Dn π listed p
 anc:∀p i:Nat,π[p]? = some i→Dn π listed p→∀j:Nat,j<ops.size→(b.getD i 0).testBit j=true→listed[j]? = some true
 inv:Bu P ρ (D.st k) w
 fresh:Bm ρ (D.st k)
 fr:Fr ρ0 (D.st 0) w0 ρ (D.st k) w
 unb:∀p,p<k→¬ Dn π listed p→D.want p=true→∀f,D.sh p=.mk f→∃ob m,f (D.aS p)=some (ob,m)∧D.v p=m.val (D.st p).next∧ρ (D.st p).next=none ∧
  (D.st k).heap.get (D.st p).next=some ob∧(D.st 0).next≤(D.st p).next∧(D.st p).next<(D.st k).next
 dis:∀p q,p<q→q<k→¬ Dn π listed p→¬ Dn π listed q→D.want p=true→D.want q=true→(D.sh p).isMk=true→(D.sh q).isMk=true→(D.st p).next≠(D.st q).next
 rds:∀q,q<k→¬ Dn π listed q→D.want q=true→(D.sh q).isRead=true→Ev (D.sh q) (D.aS q) (D.st k)=some (D.v q)
 sz:a.tmps.size=a0.tmps.size
 dfr:a.defers=a0.defers
 rw:∀p,Dn π listed p→∀d,(D.o p).dst=some d→Aa ρ (D.v p) (a.tmps.getD d undef)
 ri:∀t,(∀p,Dn π listed p→(D.o p).dst≠some t)→∀x,D.R 0 t=some x→Aa ρ x (a.tmps.getD t undef)
section
variable{P:Program}{F:EF}{ops:Array Oper}{nt:Nat}{b:Array Nat}{π:List Nat}{D:M9}{ρ0 ρ ρ1:Bp}{w0 w w1:World}{a0 a:Act}{listed:Array Bool}{k:Nat}{rnd:Option Nat}{Q:Exit→Act→World→Prop}
theorem DJ.adv1 (ht : PT P F ops nt b π D) (J : DJ P ops b π D ρ0 w0 a0 listed k ρ a w) (hk : k < π.length) (hne : (D.sh k).isEff = false) : DJ P ops b π D ρ0 w0 a0 listed (k + 1) ρ a w := by
  have hs:=ht.step k hk
  obtain⟨xs,hsh,has⟩:=hs.shape
  have lt1:∀p,Dn π listed p→p<k+1:=fun p h=>rY (J.dlt p h)
  have eff1:∀p,p<k+1→(D.sh p).isEff=true→Dn π listed p:=by
    intro p hp he
    rcases qN p k with h' | h'
    · exact J.eff p h' he
    · have:p=k:=by omega
      subst this;rw[he]at hne;cases hne
  have key:(D.st (k+1)=D.st k∧((D.sh k).isMk=true→D.want k=false)∧((D.sh k).isRead=true→D.want k=true→Ev (D.sh k) (D.aS k) (D.st k)=some (D.v k))) ∨
      ∃f ob m,D.sh k=.mk f∧D.want k=true∧f (D.aS k)=some (ob,m)∧D.v k=m.val (D.st k).next∧D.st (k+1)=newObj (D.st k) ob:=by
    cases hw:D.want k with
    | false =>
      obtain⟨_,h2⟩:=hs.no hw
      exact .inl ⟨h2,fun _=>rfl,fun _ e=>by cases e⟩
    | true =>
      have hy:=hs.yes hw
      cases he:D.sh k with
      | p1 f =>
        rw[he]at hy
        have hy:J3 (.p1 f) (D.aS k) (D.st k)=some (D.v k,D.st (k+1)):=hy
        refine .inl ⟨?_,fun e=>(by cases e),fun e=>(by cases e)⟩
        simp only[J3]at hy
        split at hy<;>first | (cases hy;done) | exact(CU hy).2
      | p2 f =>
        rw[he]at hy
        have hy:J3 (.p2 f) (D.aS k) (D.st k)=some (D.v k,D.st (k+1)):=hy
        refine .inl ⟨?_,fun e=>(by cases e),fun e=>(by cases e)⟩
        simp only[J3]at hy
        split at hy<;>first | (cases hy;done) | exact(CU hy).2
      | p f=>rw[he]at hy;exact .inl ⟨(Nr (show J3 (.p f) _ _=_ from hy)).2,fun e=>(by cases e),fun e=>(by cases e)⟩
      | r1 f =>
        rw[he]at hy hsh
        have:=KO hsh has rfl (show J3 (.r1 f) _ _=_ from hy)
        exact .inl ⟨this.2,fun e=>(by cases e),fun _ _=>this.1⟩
      | r f =>
        rw[he]at hy hsh
        have:=KO hsh has rfl (show J3 (.r f) _ _=_ from hy)
        exact .inl ⟨this.2,fun e=>(by cases e),fun _ _=>this.1⟩
      | mk f =>
        rw[he]at hy
        obtain⟨ob,m,h1,h2,h3⟩:=J4 (show J3 (.mk f) _ _=_ from hy)
        exact .inr ⟨f,ob,m,rfl,rfl,h1,h2,h3⟩
      | e f=>rw[he]at hne;cases hne
      | call f=>rw[he]at hne;cases hne
      | callv=>rw[he]at hne;cases hne
  have ndk:¬ Dn π listed k:=fun h=>absurd (J.dlt k h) (Nat.lt_irrefl k)
  have split1:∀p,p<k+1→p<k∨p=k:=fun p h=>by omega
  rcases key with⟨e,hm,hrd⟩ | ⟨f,ob,m,he,hw,h1,h2,e⟩
  · refine ⟨J.lsz, hk, lt1, eff1, J.anc, by rw [e]; exact J.inv, by rw [e]; exact J.fresh, by rw [e]; exact J.fr, ?_, ?_, ?_, J.sz, J.dfr, J.rw, J.ri⟩
    · intro p hp hd hw f hf
      rcases split1 p hp with h' | rfl
      · rw[e];exact J.unb p h' hd hw f hf
      · rw[hm (by rw[hf];rfl)]at hw;cases hw
    · intro p q hpq hq d1 d2 w1 w2 m1 m2
      rcases split1 q hq with h' | rfl
      · exact J.dis p q hpq h' d1 d2 w1 w2 m1 m2
      · rw[hm m2]at w2;cases w2
    · intro q hq hd hw hr
      rw[e]
      rcases split1 q hq with h' | rfl
      · exact J.rds q h' hd hw hr
      · exact hrd hr hw
  · have hfr := J.fresh (D.st k).next (qI          _)
    have hg:∀i,i≠(D.st k).next→(newObj (D.st k) ob).heap.get i=(D.st k).heap.get i:=fun i hi=>by rw[CR,if_neg hi]
    have hsame:∀i rb,ρ i=some rb→(newObj (D.st k) ob).heap.get i=(D.st k).heap.get i:=fun i rb hi=>hg i (fun q=>by subst q;rw[hfr.1]at hi;cases hi)
    refine⟨J.lsz,hk,lt1,eff1,J.anc,?_,?_,?_,?_,?_,?_,J.sz,J.dfr,J.rw,J.ri⟩
    · rw[e];exact J.inv.same hsame
    · rw[e]
      intro i hi
      have hi:(D.st k).next+1≤i:=hi
      have:=J.fresh i (by omega)
      exact⟨this.1,by rw[hg i (by omega)];exact this.2⟩
    · rw [e]
      refine⟨J.fr.le,fun i hi h'=>J.fr.fresh i hi (h'.imp id fun(h'':(D.st k).next+1≤i)=>by omega),Nat.le_succ_of_le J.fr.next,J.fr.size,J.fr.os,J.fr.tape,J.fr.output,J.fr.keep,fun bb hb=>J.fr.own bb (hb.same hsame),?_⟩
      intro i hi h'
      have hn:i≠(D.st k).next:=by
        have:=J.fr.next
        rcases h' with h' | h'
        · omega
        · have h':(D.st k).next+1≤i:=h'
          omega
      rw[hg i hn]
      exact J.fr.unborn i hi (h'.imp id fun(h'':(D.st k).next+1≤i)=>by omega)
    · intro p hp hd hw' f' hf
      rw[e]
      rcases split1 p hp with h' | rfl
      · obtain⟨ob',m',g1,g2,g3,g4,g5,g6⟩:=J.unb p h' hd hw' f' hf
        exact⟨ob',m',g1,g2,g3,by rw[hg _ (by omega)];exact g4,g5,rY g6⟩
      · rw[he]at hf
        injection hf with hf
        subst hf
        exact⟨ob,m,h1,h2,hfr.1,by rw[CR,if_pos rfl],J.fr.next,qn _⟩
    · intro p q hpq hq d1 d2 w1 w2 m1 m2
      rcases split1 q hq with h' | rfl
      · exact J.dis p q hpq h' d1 d2 w1 w2 m1 m2
      · cases hsp:D.sh p with
        | mk fp=>obtain⟨_,_,_,_,_,_,_,g6⟩:=J.unb p hpq d1 w1 fp hsp;omega
        | _=>rw[hsp]at m1;cases m1
    · intro q hq hd hw' hr
      rw[e]
      rcases split1 q hq with h' | rfl
      · obtain⟨xq,hq1,_⟩:=(ht.step q (by omega)).shape
        exact V7 (AF.sub_new hfr.2 ob) hq1 (J.rds q h' hd hw' hr)
      · rw[he]at hr;cases hr
theorem DJ.adv(ht:PT P F ops nt b π D):∀ (n k:Nat),n=π.length - k→DJ P ops b π D ρ0 w0 a0 listed k ρ a w→∃k',DJ P ops b π D ρ0 w0 a0 listed k' ρ a w∧(k'=π.length∨(D.sh k').isEff=true):=by
 intro n
 induction n with
 | zero=>intro k hn J;exact⟨k,J,.inl (by have:=J.kle;omega)⟩
 | succ n ih =>
  intro k hn J
  cases he:(D.sh k).isEff with
  | true=>exact⟨k,J,.inr he⟩
  | false=>exact ih (k+1) (by omega) (J.adv1 ht (by omega) he)
theorem mQ(hp:JG P ops b π){p i q:Nat}(hi:π[p]? = some i)(hl:listed.size=ops.size):Dn π (listed.setIfInBounds i true) q↔Dn π listed q∨q=p:=by
  have hlt:=hp.lt p i hi
  constructor
  · rintro⟨j,h1,h2⟩
    by_cases e:j=i
    · subst e;exact .inr (hp.inj q p j h1 hi)
    · rw[Array.getElem?_setIfInBounds_ne (Ne.symm e)]at h2
      exact .inl ⟨j,h1,h2⟩
  · rintro (⟨j, h1, h2⟩ | rfl)
    · refine⟨j,h1,?_⟩
      by_cases e:j=i
      · subst e;simp[hl,hlt]
      · rw[Array.getElem?_setIfInBounds_ne (Ne.symm e)];exact h2
    · exact⟨i,hi,by simp[hl,hlt]⟩
theorem Nn{a:Act}{d' d:Tmp}{v:Value}(h:d'≠d):(a.put (some d') v).tmps.getD d undef=a.tmps.getD d undef:=by
 simp[Act.put,Array.getD_eq_getD_getElem?,Array.getElem?_setIfInBounds_ne h]
theorem DJ.put (ht : PT P F ops nt b π D) (hp : JG     P ops b π) (hnt : nt ≤ a0.tmps.size) (J : DJ P ops b π D ρ0 w0 a0 listed k ρ a w) {p i k' : Nat} (hi : π[p]? = some i) (hnd : ¬ Dn π listed p) (hpk : p < k') (hkk : k ≤ k') (hk'' : ∀ q, q < k' → q = p ∨ q < k) (hkn : k' ≤ π.length)
    (hanc:∀j:Nat,j<ops.size→(b.getD i 0).testBit j=true→listed[j]? = some true) {v':Value} (hv:Aa ρ1 (D.v p) v') (le:ρ.le ρ1)
    (inv:Bu P ρ1 (D.st k') w1) (fresh:Bm ρ1 (D.st k')) (fr:Fr ρ0 (D.st 0) w0 ρ1 (D.st k') w1)
    (unb:∀q,q<k→q≠p→¬ Dn π listed q→D.want q=true→∀f,D.sh q=.mk f→ρ1 (D.st q).next=none∧(D.st k').heap.get (D.st q).next=(D.st k).heap.get (D.st q).next∧(D.st q).next<(D.st k').next)
    (rds:∀q,q<k→q≠p→¬ Dn π listed q→D.want q=true→(D.sh q).isRead=true→Ev (D.sh q) (D.aS q) (D.st k')=some (D.v q)):
    DJ P ops b π D ρ0 w0 a0 (listed.setIfInBounds i true) k' ρ1 (a.put (D.o p).dst v') w1:=by
  have hlt:=hp.lt p i hi
  have hpl:p<π.length:=by omega
  have dn:=fun q=>mQ (listed:=listed) (q:=q) hp hi J.lsz
  have up:∀j:Nat,listed[j]? = some true→(listed.setIfInBounds i true)[j]? = some true:=by
    intro j h
    by_cases e:j=i
    · subst e;simp[J.lsz,hlt]
    · rw[Array.getElem?_setIfInBounds_ne (Ne.symm e)];exact h
  have uniq:∀q r d,q<r→r<π.length→(D.o q).dst=some d→(D.o r).dst=some d→False:=by
    intro q r d hqr hr h1 h2
    have hr':=qP hr
    have hq':=qP (show q<π.length by omega)
    exact(hp.wdst r q _ _ _ _ d hr' hq' hqr (ht.op r _ hr') (ht.op q _ hq') h2).1 h1
  have nd:∀q,¬ Dn π (listed.setIfInBounds i true) q→¬ Dn π listed q∧q≠p:=fun q h=>⟨fun h'=>h ((dn q).2 (.inl h')),fun h'=>h ((dn q).2 (.inr h'))⟩
  refine⟨by simp[J.lsz],hkn,?_,?_,?_,inv,fresh,fr,?_,?_,?_,by rw[Fw];exact J.sz,by rw[MT];exact J.dfr,?_,?_⟩
  · intro q hq
    rcases(dn q).1 hq with h' | rfl
    · exact qi (J.dlt q h') hkk
    · exact hpk
  · intro q hq he
    rcases hk'' q hq with rfl | h'
    · exact(dn q).2 (.inr rfl)
    · exact(dn q).2 (.inl (J.eff q h' he))
  · intro q j hj hq l hl hb
    rcases(dn q).1 hq with h' | rfl
    · exact up l (J.anc q j hj h' l hl hb)
    · rw[hi]at hj
      injection hj with hj
      subst hj
      exact up l (hanc l hl hb)
  · intro q hq hd hw f hf
    obtain⟨d1,d2⟩:=nd q hd
    have hqk:=(hk'' q hq).resolve_left d2
    obtain⟨ob,m,g1,g2,g3,g4,g5,g6⟩:=J.unb q hqk d1 hw f hf
    obtain⟨u1,u2,u3⟩:=unb q hqk d2 d1 hw f hf
    exact⟨ob,m,g1,g2,u1,by rw[u2];exact g4,g5,u3⟩
  · intro q r hqr hr d1 d2 w1 w2 m1 m2
    obtain⟨d1,e1⟩:=nd q d1
    obtain⟨d2,e2⟩:=nd r d2
    exact J.dis q r hqr ((hk'' r hr).resolve_left e2) d1 d2 w1 w2 m1 m2
  · intro q hq hd hw hr
    obtain⟨d1,d2⟩:=nd q hd
    exact rds q ((hk'' q hq).resolve_left d2) d2 d1 hw hr
  · intro q hq d hd
    rcases(dn q).1 hq with h' | rfl
    · have hqn : q < π.length := qi                 (J.dlt q h') J.kle
      have hne:(D.o p).dst≠some d:=by
        intro e
        rcases rP q p with h'' | h'' | h''
        · exact uniq q p d h'' hpl hd e
        · subst h'';exact hnd h'
        · exact uniq p q d h'' hqn e hd
      have:=(J.rw q h' d hd).mono le
      cases hdp:(D.o p).dst with
      | none=>exact this
      | some d' =>
        rw[Nn fun e=>hne (by rw[hdp,e])]
        exact this
    · have hd':d<a.tmps.size:=by
        rw[J.sz];exact qi ((ht.step q hpl).lt d hd) hnt
      rw[hd]
      simpa[Act.put,Array.getD_eq_getD_getElem?,hd']using hv
  · intro t hq x hx
    have hne:(D.o p).dst≠some t:=hq p ((dn p).2 (.inr rfl))
    have:=(J.ri t (fun q h'=>hq q ((dn q).2 (.inl h'))) x hx).mono le
    cases hdp:(D.o p).dst with
    | none=>exact this
    | some d' =>
      rw[Nn fun e=>hne (by rw[hdp,e])]
      exact this
end
end
end Go.Proofs.Ytilhhmkdcoajnaa.Am
