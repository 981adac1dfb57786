/- Addresses of parts, lengths, conversions, copy, clear; conditions: none. -/
import Derived.Test.YtilhhmkdcoajnaaAmM02
import Derived.LaidEql
import Derived.OrdersIn
import Derived.RangeFuncLeaves
set_option linter.unusedVariables false
set_option linter.unusedSimpArgs false
namespace Go.Proofs.Ytilhhmkdcoajnaa.Am
open Go
noncomputable section
section
variable{P:Program}{ρ ρ1 ρ2:Bp}{s s1 s2:AG}{w w1 w2:World}
theorem Lp{t:TypeId}{x v:AV}{x':Value}{f:Nat}(h:AB P t x f=some v)(hx:AZ ρ x x'):
  ∃v',(Instr.fieldAt t x' f).run P w=.ok v' w∧AZ ρ v v':=by
 unfold AB at h
 split at h<;>first | (cases h;done) | skip
 rename_i i o
 split at h<;>first | (cases h;done) | skip
 rename_i fs hfs
 simp only[km]at h
 obtain⟨fd,hfd,n,hn,h⟩:=h
 obtain⟨hz,h⟩:=AK h
 injection h with h;subst h
 have hn0:n≠0:=by intro e;subst e;cases hz
 cases hx with
 | ptr hr =>
  rename_i rb
  refine⟨.pointer (some ⟨rb.b,rb.off+(o+fd.offset),none⟩),?_,.ptr hr⟩
  simp[Instr.fieldAt,AL hfs,hfd,Instr.sureAddr,fieldPlace,BC hn,hn0,CZ,lr]
theorem Lt{t:TypeId}{x ix v:AV}{x' ix':Value}(h:AD P t x ix=some v)(hx:AZ ρ x x')(hi:AZ ρ ix ix'):
  ∃v',(Instr.indexAt t x' ix').run P w=.ok v' w∧AZ ρ v v':=by
 unfold AD at h
 simp only[km]at h
 obtain⟨k,hk,h⟩:=h
 obtain⟨kd,rfl⟩:=K7 hk hi
 split at h<;>first | (cases h;done) | skip
 ·split at h<;>first | (cases h;done) | skip
  rename_i i o _ len e he
  simp only[km]at h
  obtain⟨n,hn,h⟩:=h
  obtain⟨hlt,h⟩:=AK h
  injection h with h;subst h
  have hlt':k<len:=by simpa[lP]using hlt
  cases hx with
  | ptr hr =>
   rename_i rb
   have:(0:Int)≤(k:Int)∧(k:Int)<(len:Int):=by omega
   refine⟨.pointer (some ⟨rb.b,rb.off+(o+k * n),none⟩),?_,.ptr hr⟩
   simp[Instr.indexAt,asIntOf,AL he,Instr.sureAddr,this,BC hn,CZ,lr]
   omega
 ·split at h<;>first | (cases h;done) | skip
  rename_i i o len cap _ e he
  simp only[km]at h
  obtain⟨n,hn,h⟩:=h
  obtain⟨hlt,h⟩:=AK h
  injection h with h;subst h
  have hlt':k<len:=by simpa[lP]using hlt
  have:(0:Int)≤(k:Int)∧(k:Int)<(len:Int):=by omega
  cases hx with
  | slice hr hl =>
   rename_i c rb
   refine⟨.pointer (some ⟨rb.b,rb.off+(o+k * n),none⟩),?_,.ptr hr⟩
   simp[Instr.indexAt,asIntOf,AL he,Instr.sureAddr,this,BC hn,CZ,lr]
   omega
  | sliceOpen hr hs hl h1 h2 =>
   rename_i c rb
   refine⟨.pointer (some ⟨rb.b,rb.off+(o+k * n),none⟩),?_,.ptr hr⟩
   simp[Instr.indexAt,asIntOf,AL he,Instr.sureAddr,this,BC hn,CZ,lr]
   omega
  | sliceEnd=>omega
theorem aA      (h : Bf  P ρ s w) {t ty : TypeId} {x v : AV} {x' : Value} {tys : Array TypeId} (ht : tys[0]? = some t) (hs : A6   P s t x = some v) (hx : AZ   ρ x x') :
    ∃v',(Builtin.len_ tys ty #[x']).run P w=.ok v' w∧AZ ρ v v':=by
  unfold A6 at hs
  split at hs<;>first | (cases hs;done) | skip
  · split at hs<;>first | (cases hs;done) | skip
    rename_i hu
    injection hs with hs;subst hs
    cases hx with
    | str he =>
      rename_i b
      subst he
      refine⟨.int .i64 b.size,by simp[Builtin.len_,ht,AL hu,goInt],?_⟩
      have:(Int.ofNat (FQ b.data.toList).length)=(b.size:Int):=by rw[Fo];rfl
      rw[this]
      exact .int _ _
  · split at hs<;>first | (cases hs;done) | skip
    rename_i hu
    injection hs with hs;subst hs
    cases hx<;>exact⟨_,by simp only[Builtin.len_,ht];simp[AL hu,goInt]<;>rfl,.int _ _⟩
  · split at hs<;>first | (cases hs;done) | skip
    rename_i hu
    injection hs with hs;subst hs
    cases hx
    exact⟨_,by simp only[Builtin.len_,ht];simp[AL hu,goInt]<;>rfl,.int _ _⟩
  · split at hs <;> first | (cases hs; done) | skip
    rename_i i _ k e hu
    split at hs<;>first | (cases hs;done) | skip
    rename_i es clock hg
    injection hs with hs;subst hs
    cases hx with
    | map hr =>
      rename_i rb
      obtain⟨es',hh,he⟩:∃es':Array MapEntry,w.heap[rb.b]? = some (.map es' clock)∧Ed ρ es es'.toList:=h.obj i _ rb hg hr
      have hlen:es.length=es'.size:=by
        have:es.length=es'.toList.length:=by
          clear hh hg
          generalize es'.toList=l at he
          induction he with
          | nil=>rfl
          | cons _ _ _ _ ih=>simp[ih]
        simpa using this
      refine⟨.int .i64 es'.size,by simp[Builtin.len_,ht,AL hu,goInt,getObj,hh,Sem.run],?_⟩
      rw[hlen]
      exact .int _ _
theorem Zk      (h : Bf  P ρ s w) {t ty : TypeId} {x v : AV} {x' : Value} {tys : Array TypeId} (ht : tys[0]? = some t) (hs : TS   P s t x = some v) (hx : AZ   ρ x x') :
    ∃v',(Builtin.cap_ tys ty #[x']).run P w=.ok v' w∧AZ ρ v v':=by
  unfold TS at hs
  split at hs<;>first | (cases hs;done) | skip
  rename_i a len cap
  split at hs<;>first | (cases hs;done) | skip
  rename_i e hu
  split at hs
  · injection hs with hs;subst hs
    cases hx<;>exact⟨_,by simp only[Builtin.cap_,ht];simp[AL hu,goInt]<;>rfl,.int _ _⟩
  · split at hs<;>first | (cases hs;done) | skip
    rename_i i o
    simp only[km]at hs
    obtain⟨n,hn,r,hrow,hs⟩:=hs
    obtain⟨hg,hs⟩:=AK hs
    injection hs with hs;subst hs
    simp only[Bool.and_eq_true,Bool.not_eq_true',lA]at hg
    obtain⟨⟨⟨g1,g2⟩,g3⟩,g4⟩:=hg
    have g3:=Aq g3
    have hn0 : 0 < n := by rcases mJ                 n with e0 | h'; · subst e0; cases g4
                           · exact h'
    cases hx with
    | sliceOpen hr hs hl h1 h2 =>
      rename_i c rb
      have hok:Ev ρ w r rb:=h.obj i _ rb (CH hrow) hr
      have hsz:rb.sz=n:=by rw[← hok.sz];exact g3.symm
      have hN:rb.N=r.n:=hok.tight g1
      rw[hsz,hN]at h1 h2
      have:(r.n - o) / n=c:=by
        have e1:c * n≤r.n - o:=by omega
        have e2:r.n - o<(c+1) * n:=by omega
        exact Nat.le_antisymm (Nat.lt_succ_iff.1 ((Nat.div_lt_iff_lt_mul hn0).2 e2)) ((Nat.le_div_iff_mul_le hn0).2 e1)
      refine⟨.int .i64 c,by simp[Builtin.cap_,ht,AL hu,goInt],?_⟩
      rw[this]
      exact .int _ _
    | sliceEnd hr hs h1 h2 =>
      rename_i rb ad
      have hok:Ev ρ w r rb:=h.obj i _ rb (CH hrow) hr
      have hsz:rb.sz=n:=by rw[← hok.sz];exact g3.symm
      have hN:rb.N=r.n:=hok.tight g1
      rw[hsz,hN]at h2
      have:(r.n - o) / n=0:=Nat.div_eq_of_lt (by omega)
      refine⟨.int .i64 (0:Nat),by simp[Builtin.cap_,ht,AL hu,goInt],?_⟩
      rw[this]
      exact .int _ _
theorem HA        {mx : Bool} : ∀ {l : List AV} {v r : AV} {v' : Value} {l' : List Value}, D8     mx v l = some r → AZ   ρ v v' → AS    ρ l l' →
    ∃r',(l'.foldlM (if mx then Builtin.max2 else Builtin.min2) v').run P w=.ok r' w∧AZ ρ r r'
  | [],v,r,v',l',h,hv,hl=>by
    cases hl
    have:D8 mx v []=some v:=by cases v<;>rfl
    rw[this]at h
    injection h with h;subst h
    exact⟨v',by simp,hv⟩
  | a::l,v,r,v',l',h,hv,hl=>by
    cases hl with
    | cons ha hl =>
      unfold D8 at h
      split at h<;>first | (cases h;done) | skip
      · rename_i hq;cases hq
      · rename_i k a k2 b l2 hq
        injection hq with h1 h2
        subst h1;subst h2
        obtain⟨hk,hg⟩:=AK h
        clear h
        have hkk:=FN hk
        clear hk
        subst hkk
        cases hv;cases ha
        cases mx with
        | true =>
          obtain⟨r',e1,e2⟩:=HA hg (.int _ _) hl
          refine⟨r',?_,e2⟩
          simp only[cond_true,D7]at e1
          simp only[if_true,List.foldlM_cons,Builtin.max2]at e1 ⊢
          simp only[Sem.run_bind,Sem.run_pure,Result.andThen_ok]
          rw[← e1]
          by_cases hc:a<b
          · rw[if_pos (show b > a from hc)];simp[hc]
          · rw[if_neg (show ¬ b > a from hc)];simp[hc]
        | false =>
          obtain⟨r',e1,e2⟩:=HA hg (.int _ _) hl
          refine⟨r',?_,e2⟩
          simp only[cond_false,D7]at e1
          simp only[if_neg Bool.false_ne_true,List.foldlM_cons,Builtin.min2]at e1 ⊢
          simp only[Sem.run_bind,Sem.run_pure,Result.andThen_ok]
          rw[← e1]
          by_cases hc:b<a
          · rw[if_pos hc];simp[hc]
          · rw[if_neg hc];simp[hc]
theorem KN         : ∀ {l : List AV} {l' : List Value} {b : List Nat} {acc : ByteArray}, Ck.bytesOf    l = some b → AS    ρ l l' →
    ∃r:ByteArray,((forIn (m:=Sem) l' acc fun c (s:ByteArray)=>match c with
      | .int .u8 n=>pure (ForInStep.yield (s.push (UInt8.ofNat n.toNat)))
      | _=>do
        stuck "bytesToString: byte expected"
        pure (ForInStep.yield s))).run P w=.ok r w∧FQ r.data.toList=FQ acc.data.toList++b
  | [],l',b,acc,h,hl=>by
    cases hl
    simp[Ck.bytesOf]at h
    subst h
    exact⟨acc,by simp,by simp⟩
  | a::l,l',b,acc,h,hl=>by
    cases hl with
    | cons ha hl =>
      unfold Ck.bytesOf at h
      split at h<;>first | (cases h;done) | skip
      · rename_i hq;cases hq
      · rename_i n l2 hq
        injection hq with h1 h2
        subst h1;subst h2
        obtain⟨hb,hg⟩:=AK h
        clear h
        simp only[km]at hg
        obtain⟨b',hb',hg⟩:=hg
        injection hg with hg;subst hg
        cases ha
        obtain⟨r,e1,e2⟩:=KN (acc:=acc.push (UInt8.ofNat n)) hb' hl
        refine⟨r,?_,?_⟩
        · rw[← e1]
          simp
        · rw[e2]
          have:n<256:=by simpa[lP]using hb
          simp[ByteArray.push,UInt8.toNat_ofNat,Nat.mod_eq_of_lt this]
theorem Xd       (h : Bf  P ρ s w) {src dst : TypeId} {x v : AV} {x' : Value} (hs : Ck    P s src dst x = some v) (hx : AZ   ρ x x') :
    ∃v',(convert src dst x').run P w=.ok v' w∧AZ ρ v v':=by
  unfold Ck at hs
  split at hs<;>first | (cases hs;done) | skip
  · rename_i d k kd n hd hk
    injection hs with hs;subst hs
    cases hx
    exact⟨.int k (k.wrap n),by simp[convert,AL hd,AL hk,Conv.intToInt],by rw[Fq];exact .int _ _⟩
  · rename_i d l hd hk
    injection hs with hs;subst hs
    cases hx with
    | str he=>exact⟨_,by simp[convert,AL hd,AL hk]<;>rfl,.str he⟩
  · rename_i e a len cap hd hk
    split at hs<;>first | (cases hs;done) | skip
    rename_i he
    split at hs
    · injection hs with hs;subst hs
      cases hx<;>exact⟨.string .empty,by simp[convert,AL hd,AL hk,AL he,Conv.bytesToString],.str rfl⟩
    · rename_i i o
      simp only[km]at hs
      obtain⟨l,hl,b,hb,hs⟩:=hs
      injection hs with hs;subst hs
      obtain⟨rb,ad,c,hr,hv,hlc,hexact,hopen⟩:=Cs hx
      subst hv
      obtain⟨l',e1,e2,e3⟩:=EL h hr hl
      have e3':(loadCells ad len).run P w=.ok l'.toArray w:=by
        cases cap with
        | some c0=>obtain⟨_,rfl⟩:=hexact c0 rfl;exact e3 w rfl
        | none =>
          rcases(hopen rfl).2 with⟨rfl,_⟩ | ⟨rfl,_⟩
          · exact e3 w rfl
          · have:l'=[]:=by simpa using e2
            subst this
            exact E6 ad w
      obtain⟨r,f1,f2⟩:=KN (P:=P) (w:=w) (acc:=.empty) hb e1
      refine⟨.string r,?_,.str (by simpa using f2)⟩
      simp only[convert,Sem.run_bind,AL hd,AL hk,AL he,Result.andThen_ok,Conv.bytesToString,e3']
      simp only[List.forIn_toArray]
      exact(congrArg (fun(r:Result ByteArray)=>r.andThen fun a w'=>Sem.run P (pure (Value.string a)) w') f1)
end
section
variable{P:Program}{ρ ρ1 ρ2:Bp}{s s1 s2:AG}{w w1 w2:World}
theorem Em{x:AV}{x':Value}{y i:Nat}(h:BA x y=some i)(hx:AZ ρ x x')(code:BoundsCode):
  i≤y∧(Instr.sliceBound x' y code).run P w=.ok i w:=by
 unfold BA at h
 simp only[km]at h
 obtain⟨k,hk,h⟩:=h
 obtain⟨hle,h⟩:=AK h
 injection h with h;subst h
 obtain⟨kd,rfl⟩:=K7 hk hx
 have hle:k≤y:=by simpa[lA]using hle
 refine⟨hle,?_⟩
 have:(0:Int)≤(k:Int)∧(k:Int)≤(y:Int):=by omega
 simp[Instr.sliceBound,asIntOf,this]
inductive KG (ρ:Bp):Option AV→Option Value→Prop
 | none:KG ρ none none
 | some {v:AV} {v':Value} (h:AZ ρ v v'):KG ρ (some v) (some v')
def je(cap m:Nat):Option AV→Prop
 | some v=>BA v cap=some m
 | none=>m=cap
def ja(mx:Option AV)(len m h:Nat):Option AV→Prop
 | some v=>BA v m=some h
 | none=>h=len∧mx=none
def iL(h l:Nat):Option AV→Prop
 | some v=>BA v h=some l
 | none=>l=0
theorem D2{lo hi mx:Option AV}{lo' hi' mx':Option Value}(hlo:KG ρ lo lo')(hhi:KG ρ hi hi')(hmx:KG ρ mx mx')(isS:Bool){len cap m h l:Nat}
  (h1:je cap m mx) (h2:ja mx len m h hi) (h3:iL h l lo):
  (Instr.sliceBounds isS len cap lo' hi' mx').run P w=.ok (l,h,m) w:=by
 unfold Instr.sliceBounds
 cases hmx with
 | none =>
  have h1:m=cap:=h1
  subst h1
  cases hhi with
  | none =>
   obtain⟨rfl,_⟩:=h2
   cases hlo with
   | none=>have h3:l=0:=h3;subst h3;simp
   | some hv=>obtain⟨_,e⟩:=Em (P:=P) (w:=w) h3 hv .sliceB;simp[e]
  | some hv =>
   obtain⟨_,e⟩:=Em (P:=P) (w:=w) h2 hv (if isS then .sliceAcap else .sliceAlen)
   cases hlo with
   | none=>have h3:l=0:=h3;subst h3;simp[e]
   | some hv2=>obtain⟨_,e2⟩:=Em (P:=P) (w:=w) h3 hv2 .sliceB;simp[e,e2]
 | some hm =>
  obtain⟨_,e0⟩:=Em (P:=P) (w:=w) h1 hm (if isS then .slice3Acap else .slice3Alen)
  cases hhi with
  | none=>exact absurd h2.2 (by simp)
  | some hv =>
   obtain⟨_,e⟩:=Em (P:=P) (w:=w) h2 hv .slice3B
   cases hlo with
   | none=>have h3:l=0:=h3;subst h3;simp[e0,e]
   | some hv2=>obtain⟨_,e2⟩:=Em (P:=P) (w:=w) h3 hv2 .slice3C;simp[e0,e,e2]
theorem JT{x:AV}{y z i:Nat}(h:BA x y=some i)(hle:y≤z):BA x z=some i:=by
 unfold BA at h ⊢
 simp only[km]at h ⊢
 obtain⟨k,hk,h⟩:=h
 obtain⟨h1,h2⟩:=AK h
 refine⟨k,hk,?_⟩
 have:k≤y:=by simpa[lA]using h1
 have:Nat.ble k z=true:=by simp[lA];omega
 simp only[AI,this,cond_true]
 exact h2
theorem Cx{x:AV}{y i:Nat}(h:BA x y=some i):i≤y:=by
 unfold BA at h
 simp only[km]at h
 obtain⟨k,hk,h⟩:=h
 obtain⟨h1,h2⟩:=AK h
 injection h2 with h2;subst h2
 simpa[lA]using h1
theorem H0(s:ByteArray)(o h:Nat):FQ (s.extract o h).data.toList=((FQ s.data.toList).drop o).take (h - o):=by
 simp[FQ,mL,mS,Array.toList_extract]
theorem Uo{lo hi mx:Option AV}{lo' hi' mx':Option Value}(hlo:KG ρ lo lo')(hhi:KG ρ hi hi')(hmx:KG ρ mx mx'){len i o:Nat}{e:TypeId}{v:AV}{rb:RB}(hr:ρ i=some rb)
    (hs:A2.arr P lo hi mx len e i o=some v):
    ∃l h m n,(Instr.sliceBounds false len len lo' hi' mx').run P w=.ok (l,h,m) w∧BD P e=some n ∧
      AZ ρ v (.slice (some (if m=l then ⟨rb.b,rb.off+o,none⟩else (⟨rb.b,rb.off+o,none⟩:Addr).add (l * n))) (h - l) (m - l)):=by
  unfold A2.arr at hs
  simp only[km]at hs
  obtain⟨n,hn,m,hm,h,hh,l,hl,hs⟩:=hs
  injection hs with hs;subst hs
  have hmh:h≤m:=by
    cases hi with
    | some v=>exact Cx hh
    | none =>
      cases mx with
      | none=>simp at hm hh;omega
      | some _=>simp at hh
  have hlh:l≤h:=by
    cases lo with
    | some v=>exact Cx hl
    | none=>simp at hl;omega
  refine⟨l,h,m,n,D2 hlo hhi hmx false ?_ ?_ ?_,hn,?_⟩
  · cases mx with
    | some v=>exact hm
    | none=>simp at hm;show m=len;omega
  · cases hi with
    | some v=>exact hh
    | none =>
      cases mx with
      | none=>simp at hh;exact⟨by omega,rfl⟩
      | some _=>simp at hh
  · cases lo with
    | some v=>exact hl
    | none=>simp at hl;show l=0;omega
  · by_cases e1 : m = l
    · rw[if_pos e1,show Nat.beq m l=true from by subst e1;simp]
      exact .slice hr (by omega)
    · rw[if_neg e1,show Nat.beq m l=false from by cases hb:Nat.beq m l with | true=>exact absurd (Aq hb) e1 | false=>rfl,CZ,cond_false,lr]
      exact .slice hr (by omega)
theorem Ep        (hI : Bf  P ρ s w) {t : TypeId} {x v : AV} {x' : Value} {lo hi mx : Option AV} {lo' hi' mx' : Option Value} (hs : A2     P s t x lo hi mx = some v) (hx : AZ   ρ x x')
    (hlo:KG ρ lo lo') (hhi:KG ρ hi hi') (hmx:KG ρ mx mx'):
    ∃v',(Instr.sliceAt t x' lo' hi' mx').run P w=.ok v' w∧AZ ρ v v':=by
  unfold A2 at hs
  split at hs<;>first | (cases hs;done) | skip
  ·
    rename_i l
    simp only[km]at hs
    obtain⟨_,h0,h,hh,o,ho,_,hu,hs⟩:=hs
    injection hs with hs;subst hs
    split at hu<;>first | (cases hu;done) | skip
    rename_i hu'
    cases hmx with
    | some _=>cases h0
    | none =>
      cases hx with
      | str he =>
        rename_i b
        subst he
        have hlen:(FQ b.data.toList).length=b.size:=Fo b
        have hb:(Instr.sliceBounds false b.size b.size lo' hi' none).run P w=.ok (o,h,b.size) w:=by
          refine D2 hlo hhi .none false rfl ?_ ?_
          · cases hi with
            | some v=>simp only at hh;rw[hlen]at hh;exact hh
            | none=>simp only[Option.some.injEq]at hh;rw[hlen]at hh;exact⟨hh.symm,rfl⟩
          · cases lo with
            | some v=>exact ho
            | none=>simp only[Option.some.injEq]at ho;exact ho.symm
        refine⟨.string (b.extract o h),?_,.str (H0 b o h)⟩
        simp[Instr.sliceAt,Instr.slice,AL hu',hb]
  ·
    rename_i a len cap
    split at hs<;>first | (cases hs;done) | skip
    rename_i e hu
    simp only[km]at hs
    obtain⟨n,hn,far,hfar,m,hm,h,hh,l,hl,hs⟩:=hs
    injection hs with hs;subst hs
    have key:∀ (a':Option Addr) (c M:Nat),x'=.slice a' len c→(Instr.sliceBounds true len c lo' hi' mx').run P w=.ok (l,h,M) w →
        (Instr.sliceAt t x' lo' hi' mx').run P w=.ok (.slice (if M=l then a' else a'.map (·.add (l * n))) (h - l) (M - l)) w:=by
      intro a' c M hx1 hb
      subst hx1
      simp[Instr.sliceAt,Instr.slice,AL hu,hb,BC hn]
    have hlh:l≤h:=by
      cases lo with
      | some v=>exact Cx hl
      | none=>simp at hl;omega
    have hl':iL h l lo:=by
      cases lo with
      | some v=>exact hl
      | none=>simp at hl;show l=0;omega
    cases a with
    | none =>
      cases hx
      cases mx with
      | none =>
        simp only[Option.some.injEq]at hm hfar
        subst hm
        have hh0:h≤0:=by
          cases hi with
          | some v=>exact Cx hh
          | none=>simp at hh;omega
        have hb:(Instr.sliceBounds true 0 0 lo' hi' mx').run P w=.ok (l,h,0) w:=by
          refine D2 hlo hhi hmx true rfl ?_ hl'
          cases hi with
          | some v=>exact hh
          | none=>simp at hh;exact⟨by omega,rfl⟩
        refine⟨_,key none 0 0 rfl hb,?_⟩
        have e1:h - l=0:=by omega
        simp only[e1,Option.map_none,Nat.zero_sub,ite_self]
        exact .sliceNil
      | some mv =>
        simp only[Option.some.injEq]at hfar
        subst hfar
        simp only[km]at hm
        obtain⟨c,hc,hm⟩:=hm
        obtain⟨_,hm⟩:=AK hm
        injection hm with hm;subst hm
        have hc0:c≤0:=Cx hc
        have hc0:c=0:=by omega
        subst hc0
        have hh0:h≤0:=by
          cases hi with
          | some v=>exact Cx hh
          | none=>simp at hh
        have hb:(Instr.sliceBounds true 0 0 lo' hi' mx').run P w=.ok (l,h,0) w:=by
          refine D2 hlo hhi hmx true hc ?_ hl'
          cases hi with
          | some v=>exact hh
          | none=>simp at hh
        refine⟨_,key none 0 0 rfl hb,?_⟩
        have e1:h - l=0:=by omega
        simp only[e1,Option.map_none,Nat.zero_sub,ite_self]
        exact .sliceNil
    | some io =>
      obtain⟨i,o⟩:=io
      obtain⟨rb,ad,c,hr,hv,hlc,hexact,hopen⟩:=Cs hx
      have hfc:far≤c∧(cap=none→ad=⟨rb.b,rb.off+o,none⟩∨far=0)∧(cap=none→rb.sz=n):=by
        cases cap with
        | some c0 =>
          obtain⟨rfl,_⟩:=hexact c0 rfl
          simp only[Option.some.injEq]at hfar
          exact⟨by omega,(fun q=>by cases q),fun q=>by cases q⟩
        | none =>
          simp only[km]at hfar
          obtain⟨r,hrow,hfar⟩:=hfar
          obtain⟨hg,hfar⟩:=AK hfar
          injection hfar with hfar
          simp only[Bool.and_eq_true,Bool.not_eq_true',lA]at hg
          obtain⟨⟨g1,g2⟩,g3⟩:=hg
          have g2:=Aq g2
          have hn0:0<n:=by
            rcases mJ n with e0 | h'
            · subst e0;cases g3
            · exact h'
          have hok:Ev ρ w r rb:=hI.obj i _ rb (CH hrow) hr
          have hsz:rb.sz=n:=by rw[← hok.sz];exact g2.symm
          have hle:=hok.le
          obtain⟨_,hc⟩:=hopen rfl
          rw[hsz]at hc
          rcases hc with⟨e1,c1,c2⟩ | ⟨e1,e2,c1,c2⟩
          · refine ⟨?_, fun _ => .inl e1, fun _ => hsz⟩
            rw[← hfar]
            exact Nat.lt_succ_iff.1 ((Nat.div_lt_iff_lt_mul hn0).2 (by rw[Nat.succ_eq_add_one];omega))
          · have:far=0:=by rw[← hfar];exact Nat.div_eq_of_lt (by omega)
            exact⟨by omega,fun _=>.inr this,fun _=>hsz⟩
      obtain⟨hfc,hfa,hsn⟩:=hfc
      subst hv
      cases mx with
      | some mv =>
        simp only[km]at hm
        obtain⟨c1,hc1,hm⟩:=hm
        obtain⟨hg,hm⟩:=AK hm
        injection hm with hm;subst hm
        have had:ad=⟨rb.b,rb.off+o,none⟩:=by
          cases cap with
          | some c0=>exact(hexact c0 rfl).2
          | none =>
            rcases hfa rfl with h' | h'
            · exact h'
            · simp[lP]at hg
              omega
        have hh1:h≤c1:=by
          cases hi with
          | some v=>exact Cx hh
          | none=>simp at hh
        have hb:(Instr.sliceBounds true len c lo' hi' mx').run P w=.ok (l,h,c1) w:=by
          refine D2 hlo hhi hmx true (JT hc1 hfc) ?_ hl'
          cases hi with
          | some v=>exact hh
          | none=>simp at hh
        refine⟨_,key _ c c1 rfl hb,?_⟩
        subst had
        by_cases e1:c1=l
        · rw[if_pos e1]
          simp only[show Nat.beq c1 l=true from by subst e1;simp,cond_true]
          exact .slice hr (by omega)
        · rw[if_neg e1]
          simp only[show Nat.beq c1 l=false from by cases hb:Nat.beq c1 l with | true=>exact absurd (Aq hb) e1 | false=>rfl,CZ,cond_false,lr,mX]
          exact .slice hr (by omega)
      | none =>
        simp only[Option.some.injEq]at hm
        subst hm
        cases cap with
        | some c0 =>
          obtain⟨rfl,had⟩:=hexact c0 rfl
          have hh1:h≤c:=by
            cases hi with
            | some v=>exact Cx hh
            | none=>simp at hh;omega
          have hb:(Instr.sliceBounds true len c lo' hi' mx').run P w=.ok (l,h,c) w:=by
            refine D2 hlo hhi hmx true rfl ?_ hl'
            cases hi with
            | some v=>exact hh
            | none=>simp at hh;exact⟨by omega,rfl⟩
          refine⟨_,key _ c c rfl hb,?_⟩
          subst had
          by_cases e1:c=l
          · rw[if_pos e1]
            simp only[show Nat.beq c l=true from by subst e1;simp,cond_true]
            exact .slice hr (by omega)
          · rw[if_neg e1]
            simp only[show Nat.beq c l=false from by cases hb:Nat.beq c l with | true=>exact absurd (Aq hb) e1 | false=>rfl,CZ,cond_false,lr,mX]
            exact .slice hr (by omega)
        | none =>
          obtain⟨hs0,hc⟩:=hopen rfl
          have hsn:=hsn rfl
          have hh1:h≤c:=by
            cases hi with
            | some v=>exact lF (Cx hh) hfc
            | none=>simp at hh;omega
          have hb:(Instr.sliceBounds true len c lo' hi' mx').run P w=.ok (l,h,c) w:=by
            refine D2 hlo hhi hmx true rfl ?_ hl'
            cases hi with
            | some v=>exact JT hh hfc
            | none=>simp at hh;exact⟨by omega,rfl⟩
          refine⟨_,key _ c c rfl hb,?_⟩
          rw[hsn]at hc hs0
          simp only
          rcases hc with⟨rfl,c1,c2⟩ | ⟨rfl,rfl,c1,c2⟩
          · by_cases e1 : c = l
            · subst e1
              rw[if_pos rfl,show h - c=0 from by omega,mH]
              rw[lj,Nat.one_mul]at c2
              exact .sliceEnd hr (by omega) (by omega) (by rw[hsn];omega)
            · rw[if_neg e1]
              simp only[mX,CZ,lr]
              obtain⟨d,hd⟩:∃d,c=l+d:=⟨c - l,by omega⟩
              subst hd
              rw[show l+d - l=d from by omega]
              rw[lj]at c1
              rw[show(l+d+1) * n=l * n+(d+1) * n from by rw[← lj,lr]]at c2
              exact .sliceOpen hr (by omega) (by omega) (by rw[hsn];omega) (by rw[hsn];omega)
          · have:l=0:=by omega
            subst this
            have:h=0:=by omega
            subst this
            simp only[if_pos,mH,Nat.zero_mul,mI]
            exact .sliceEnd hr (by omega) c1 (by rw[hsn];omega)
  ·
    rename_i i o
    cases hx with
    | ptr hr =>
      rename_i rb
      split at hs<;>first | (cases hs;done) | skip
      · rename_i len e hu
        obtain⟨l,h,m,n,e1,e2,e3⟩:=Uo (P:=P) (w:=w) hlo hhi hmx hr hs
        exact⟨_,by simp only[Instr.sliceAt,Sem.run_bind,AL hu,Result.andThen_ok,Instr.sureAddr,Sem.run_pure,e1,BC e2],e3⟩
      · rename_i u hu
        split at hs<;>first | (cases hs;done) | skip
        rename_i len e hu2
        obtain⟨l,h,m,n,e1,e2,e3⟩:=Uo (P:=P) (w:=w) hlo hhi hmx hr hs
        exact⟨_,by simp only[Instr.sliceAt,Instr.slice,Sem.run_bind,AL hu,AL hu2,Result.andThen_ok,asAddr,Sem.run_pure,e1,BC e2],e3⟩
end
section
variable{P:Program}{ρ ρ1 ρ2:Bp}{s s1 s2:AG}{w w1 w2:World}
theorem Lq(h:Bf P ρ s w){i o n size len:Nat}{cap:Option Nat}{x':Value}{l:List AV}(hx:AZ ρ (.slice (some (i,o)) len cap) x')(hn:n≤len)(hl:loadN s i o (n * size)=some l):
  ∃l':List Value,AS ρ l l'∧l'.length=n * size∧∀w1:World,w1.heap=w.heap→(Builtin.firstCells size n x').run P w1=.ok l'.toArray w1:=by
 obtain⟨rb,ad,c,hr,hv,hlc,hexact,hopen⟩:=Cs hx
 subst hv
 obtain⟨l',e1,e2,e3⟩:=EL h hr hl
 refine⟨l',e1,e2,fun w1 hw1=>?_⟩
 cases cap with
 | some c0=>obtain⟨_,rfl⟩:=hexact c0 rfl;exact e3 w1 hw1
 | none =>
  rcases(hopen rfl).2 with⟨rfl,_⟩ | ⟨rfl,_⟩
  ·exact e3 w1 hw1
  ·have h0:n=0:=by omega
   subst h0
   have:l'=[]:=by simpa using e2
   subst this
   simp[Builtin.firstCells,E6]
theorem Ib(h:Bf P ρ s w){i o len size n:Nat}{cap:Option Nat}{ad:Addr}{c:Nat}{vs:List AV}{vs':List Value}(hx:AZ ρ (.slice (some (i,o)) len cap) (.slice (some ad) len c))
  (hv:AS ρ vs vs') (hlen:len=0→vs=[]) (hs:B7 s i o vs=some s1):∃w1,(storeCells ad vs').run P w=.ok () w1∧Bf P ρ s1 w1∧Fr ρ s w ρ s1 w1:=by
 obtain⟨rb,ad0,c0,hr,hv0,hlc,hexact,hopen⟩:=Cs hx
 injection hv0 with q1 q2 q3
 injection q1 with q1
 subst q1;subst q3
 have exq:ad=⟨rb.b,rb.off+o,none⟩→∃w1,(storeCells ad vs').run P w=.ok () w1∧Bf P ρ s1 w1∧Fr ρ s w ρ s1 w1:=by
  intro e;subst e;exact HE h hr hs hv
 cases cap with
 | some c0=>exact exq (hexact c0 rfl).2
 | none =>
  rcases(hopen rfl).2 with⟨e,_⟩ | ⟨e,_⟩
  ·exact exq e
  ·have:=hlen e
   subst this
   cases hv
   simp[B7]at hs
   subst hs
   exact⟨w,rfl,h,Fr.refl _ _ _⟩
theorem Xg       (h : Bf  P ρ s w) {tys : Array TypeId} {ty : TypeId} {args : List AV} {v : AV} {args' : Array Value} (hs : Xf    P s tys.toList args = some (v, s1)) (ha : AS    ρ args args'.toList) :
    SS P ρ s w (Builtin.copy_ tys ty args') v s1:=by
  obtain⟨tyl⟩:=tys
  obtain⟨argl⟩:=args'
  simp only at hs ha
  unfold Xf at hs
  split at hs<;>first | (cases hs;done) | skip
  rename_i dt tl a dl cap x
  cases ha with
  | cons ha hb =>
  rename_i a' l1
  cases hb with
  | cons hx hnil =>
  rename_i x' l2
  cases hnil
  split at hs<;>first | (cases hs;done) | skip
  rename_i e hu
  simp only[km]at hs
  obtain⟨size,hsize,sl,hsl,cells,hcells,s',hst,hs⟩:=hs
  injection hs with hs
  injection hs with hs1 hs2
  subst hs1;subst hs2
  have hmin : (bif Nat.ble sl dl then sl else dl) = Nat.min sl dl := by
    cases hb:Nat.ble sl dl with
    | true => have : sl ≤ dl := by simpa [lA]         using hb
              simp only[cond_true];exact(mT this).symm
    | false => have : dl ≤ sl := by
                 rcases Nat.le_total sl dl with h' | h'
                 · rw[Nat.ble_eq_true_of_le h']at hb;cases hb
                 · exact h'
               simp only[cond_false];exact(Nat.min_eq_right this).symm
  rw[hmin]at hcells ⊢
  have hlen:(Builtin.lenOf x').run P w=.ok sl w:=by
    split at hsl<;>first | (cases hsl;done) | skip
    · injection hsl with hsl;subst hsl
      cases hx<;>rfl
    · injection hsl with hsl;subst hsl
      cases hx with
      | str he=>subst he;rw[Fo];rfl
  have hsrc:∃l':List Value,AS ρ cells l'∧(Builtin.firstCells size (Nat.min sl dl) x').run P w=.ok l'.toArray w∧(Nat.min sl dl=0→cells=[]):=by
    split at hcells<;>first | (cases hcells;done) | skip
    · injection hcells with hcells;subst hcells
      cases hx
      exact⟨[],.nil,rfl,fun _=>rfl⟩
    · simp only [Option.some.injEq] at hsl
      subst hsl
      obtain⟨l',e1,e2,e3⟩:=Lq h hx (Nat.min_le_left _ _) hcells
      refine⟨l',e1,e3 w rfl,fun h0=>?_⟩
      have:=e1.length
      rw[e2,show min _ dl=0 from h0,Nat.zero_mul]at this
      exact List.eq_nil_of_length_eq_zero this
    · rename_i l
      obtain⟨hg,hcells⟩:=AK hcells
      injection hcells with hcells;subst hcells
      cases hx with
      | str he =>
        rename_i b
        subst he
        refine⟨((b.extract 0 (Nat.min sl dl)).data.map fun b=>Value.int .u8 b.toNat).toList,?_,by simp only[Builtin.firstCells,Array.toArray_toList,Sem.run_pure],fun h0=>by rw[h0];rfl⟩
        have hk:∀l:List UInt8,AS ρ ((FQ l).map fun b=>AV.int .u8 (.ofNat b)) (l.map fun b=>Value.int .u8 b.toNat):=by
          intro l
          induction l with
          | nil=>exact .nil
          | cons a l ih=>exact .cons (.int _ _) ih
        have:=hk (b.extract 0 (Nat.min sl dl)).data.toList
        rw[H0]at this
        simpa using this
  obtain⟨l',e1,e2,e3⟩:=hsrc
  have hrun:∀ (base:Option Addr) (c:Nat),a'=.slice base dl c→∀w1,(match base with | some ad=>storeCells ad l' | none=>pure ()).run P w=.ok () w1 →
      (Builtin.copy_ ⟨dt::tl⟩ ty ⟨[a',x']⟩).run P w=.ok (.int .i64 (Nat.min sl dl:Nat)) w1:=by
    intro base c hb w1 hw1
    subst hb
    cases base with
    | none =>
      simp only[Sem.run_pure]at hw1
      injection hw1 with _ hw1
      subst hw1
      simp[Builtin.copy_,AL hu,hlen,BC hsize,e2,goInt]
    | some ad =>
      simp only at hw1
      simp[Builtin.copy_,AL hu,hlen,BC hsize,e2,hw1,goInt]
  cases a with
  | none =>
    simp only[Option.some.injEq]at hst
    subst hst
    cases ha
    exact⟨_,_,ρ,hrun none 0 rfl w rfl,.int _ _,h,Fr.refl _ _ _⟩
  | some io =>
    obtain⟨i,o⟩:=io
    simp only at hst
    obtain⟨rb,ad,c,hr,hv,_⟩:=Cs ha
    subst hv
    obtain⟨w1,k1,k2,k3⟩:=Ib (size:=0) (n:=0) h ha e1 (fun h0=>e3 (by subst h0;exact Nat.min_zero _)) hst
    exact⟨_,w1,ρ,hrun (some ad) c rfl w1 k1,.int _ _,k2,k3⟩
theorem Mc(ρ:Bp){t:TypeId}{z:AV}(h:CL P t=some z):∃v,(∀w,(zeroValue t).run P w=.ok v w)∧AZ ρ z v:=by
  unfold CL at h
  split at h
  · split at h
    · rename_i i hi _ v hv
      exact⟨v,fun w=>by simp[zeroValue,typeInfo,hi,hv],Bz ρ h⟩
    · cases h
  · cases h
theorem TU(h:Bf P ρ s w){tys:Array TypeId}{ty:TypeId}{args:List AV}{v:AV}{args':Array Value}(hs:DO P s tys.toList args=some (v,s1))(ha:AS ρ args args'.toList):
  SS P ρ s w (Builtin.clear_ tys ty args') v s1:=by
 obtain⟨tyl⟩:=tys
 obtain⟨argl⟩:=args'
 simp only at hs ha
 unfold DO at hs
 split at hs<;>first | (cases hs;done) | skip
 rename_i t tl x
 cases ha with
 | cons hx hb =>
 rename_i x' l1
 cases hb
 split at hs<;>first | (cases hs;done) | skip
 ·rename_i e n cap hu
  injection hs with hs
  injection hs with hs1 hs2
  subst hs1;subst hs2
  cases hx
  exact⟨_,w,ρ,by simp[Builtin.clear_,AL hu];rfl,DY ρ,h,Fr.refl _ _ _⟩
 ·have hu:=‹P.underlying t=some (TypeDesc.slice _)›
  injection hs with hs
  injection hs with hs1 hs2
  subst hs1;subst hs2
  cases hx<;>exact⟨_,w,ρ,by simp[Builtin.clear_,AL hu];rfl,DY ρ,h,Fr.refl _ _ _⟩
 ·rename_i e i o n cap hn hu
  simp only[km]at hs
  obtain⟨z,hz,s',hst,hs⟩:=hs
  injection hs with hs
  injection hs with hs1 hs2
  subst hs1;subst hs2
  obtain⟨z',hz1,hz2⟩:=Mc ρ hz
  obtain⟨rb,ad,c,hr,hv,_⟩:=Cs hx
  subst hv
  have hl:=hz2.cells.length
  obtain⟨w1,k1,k2,k3⟩:=Ib (size:=0) (n:=0) h hx (HP hz2 rfl (by simpa using hl.symm) n) (fun h0=>by subst h0;rfl) hst
  refine⟨_,w1,ρ,?_,DY ρ,k2,k3⟩
  cases n with
  | zero=>exact absurd rfl hn
  | succ n=>simp[Builtin.clear_,AL hu,hz1,k1,undef]
theorem DK{t:TypeId}{k:AV}{k':Value}(h:B2 P t k=true)(hk:AZ ρ k k')(e:Bool)(n:Nat):(Instr.checkKey e (n+1) t k').run P w=.ok () w:=by
 unfold B2 at h
 split at h<;>first | (cases h;done) | skip
 ·split at h<;>first | (cases h;done) | skip
  rename_i hu
  cases hk
  simp[Instr.checkKey,AL hu]
 ·split at h<;>first | (cases h;done) | skip
  rename_i hu
  cases hk
  simp[Instr.checkKey,AL hu]
theorem Ds{t:TypeId}{k:AV}(h:B2 P t k=true):∃d,P.underlying t=some d∧((∃kd kd' n,d=.int kd'∧k=.int kd n)∨(d=.string∧∃l,k=.str l)):=by
 unfold B2 at h
 split at h<;>first | (cases h;done) | skip
 ·split at h<;>first | (cases h;done) | skip
  rename_i hu
  exact⟨_,hu,.inl ⟨_,_,_,rfl,rfl⟩⟩
 ·split at h<;>first | (cases h;done) | skip
  rename_i hu
  exact⟨_,hu,.inr ⟨rfl,_,rfl⟩⟩
theorem X1       {t : TypeId} {k k0 : AV} {k' k0' : Value} {b : Bool} (hsk : B2        P t k = true) (hb : K9    k k0 = some b) (hk : AZ   ρ k k') (hk0 : AZ   ρ k0 k0') :
    ∀d,P.underlying t=some d→Instr.sameNow d k' k0'=some b∧(b=true→k0'=k'):=by
  intro d hd
  obtain⟨d',hd',hc⟩:=Ds hsk
  rw[hd]at hd'
  injection hd' with hd'
  subst hd'
  rcases hc with⟨kd,kd',n,rfl,rfl⟩ | ⟨rfl,l,rfl⟩
  · cases k0<;>first | (simp[K9]at hb;done) | skip
    rename_i kd2 n2
    simp only[K9]at hb
    obtain⟨hg,hb2⟩:=AK hb
    clear hb
    injection hb2 with hb2
    have:=FN hg
    clear hg
    subst this
    cases hk;cases hk0
    rw[F1]at hb2
    subst hb2
    refine⟨by simp[Instr.sameNow],fun e=>?_⟩
    have:n=n2:=by simpa using e
    rw[this]
  · cases k0<;>first | (simp[K9]at hb;done) | skip
    rename_i l2
    simp only[K9,Option.some.injEq]at hb
    cases hk with
    | str h1 =>
    cases hk0 with
    | str h2 =>
      rename_i s1 s2
      subst h1;subst h2
      rw[Hg]at hb
      have hq:(s1.data == s2.data)=b:=by
        rw[← hb,Bool.eq_iff_iff,beq_iff_eq,beq_iff_eq]
        exact⟨fun e=>by rw[e],fun e=>Array.ext' e⟩
      refine⟨congrArg some (show(s1 == s2)=b from hq),fun e=>?_⟩
      subst e
      have:s1.data=s2.data:=by simpa using hq
      cases s1;cases s2
      simp only at this
      rw[this]
theorem Kw       {t : TypeId} {k : AV} {k' : Value} {d : TypeDesc} (hd : P.underlying t = some d) (hsk : B2        P t k = true) (hk : AZ   ρ k k') :
    ∀ {es:List (AV×AV×Nat)} {es':List MapEntry} {i:Nat} {r:Option (Nat×AV×Nat)},Dl k es i=some r→Ed ρ es es' →
      match r with
      | none=>Instr.findNow d k' es' i=some none
      | some (j,v,b)=>∃v' e' m,Instr.findNow d k' es' i=some (some (j,v'))∧AZ ρ v v'∧j=i+m∧es'[m]? = some e'∧e'.key=k'∧e'.val=v':=by
  intro es es' i r h he
  induction he generalizing i r with
  | nil=>simp[Dl]at h;subst h;rfl
  | cons hk0 hv hb hs ih =>
    rename_i k0 v0 b0 e0 l l'
    simp only[Dl,km]at h
    obtain⟨b,hb',h⟩:=h
    obtain⟨h1,h2⟩:=X1 hsk hb' hk hk0 d hd
    cases b with
    | true =>
      simp only[Option.some.injEq]at h
      subst h
      exact⟨e0.val,e0,0,by simp[Instr.findNow,h1],hv,rfl,rfl,h2 rfl,rfl⟩
    | false =>
      simp only at h
      have:=ih h
      cases r with
      | none=>simpa[Instr.findNow,h1]using this
      | some q =>
        obtain⟨j,v,b⟩:=q
        obtain⟨v',e',m,q1,q2,q3,q4,q5,q6⟩:=this
        exact⟨v',e',m+1,by simp[Instr.findNow,h1,q1],q2,by omega,by simpa using q4,q5,q6⟩
theorem DX{t:TypeId}{k':Value}{d:TypeDesc}{es':List MapEntry}{r:Option (Nat×Value)}(hd:P.underlying t=some d)(h:Instr.findNow d k' es' 0=some r):
  (Instr.findKey t k' es').run P w=.ok r w:=by simp[Instr.findKey,AL hd,h]
theorem FC{b:Nat}{es:Array MapEntry}{c:Nat}(h:w.heap[b]? = some (.map es c)):(getObj b).run P w=.ok (.map es c) w:=by simp[getObj,Sem.run,h]
theorem GB{b:Nat}{es:Array MapEntry}{c:Nat}(o:Obj)(h:w.heap[b]? = some (.map es c)):(Go.setObj b o).run P w=.ok () { w with heap:=w.heap.setIfInBounds b o }:=by simp[Go.setObj,Sem.run,h]
theorem RY         (h : Bf  P ρ s w) {t : TypeId} {m k v : AV} {m' k' : Value} {ok : Bool} (hs : C0      P s t m k ok = some v) (hm : AZ   ρ m m') (hk : AZ   ρ k k') :
    ∃v',(Instr.lookup t m' k' ok).run P w=.ok v' w∧AZ ρ v v':=by
  unfold C0 at hs
  split at hs<;>first | (cases hs;done) | skip
  rename_i kt et hu
  obtain⟨hsk,hg⟩:=AK hs
  clear hs
  simp only[km]at hg
  obtain⟨es,hes,r,hf,p,hp,hg⟩:=hg
  injection hg with hg
  obtain⟨d,hd,_⟩:=Ds hsk
  have hent:∃es':Array MapEntry,Ed ρ es es'.toList∧(∀f:Array MapEntry→Sem Value,(do
      let es ← match m' with
        | .map none=>pure #[]
        | .map (some r)=>do
          let .map es _ ← getObj r | stuck "Lookup: map expected"
          pure es
        | _ => stuck "Lookup: map expected"
      f es:Sem Value).run P w=(f es').run P w):=by
    split at hes<;>first | (cases hes;done) | skip
    · injection hes with hes;subst hes
      cases hm
      exact⟨#[],.nil,fun f=>by simp⟩
    · split at hes<;>first | (cases hes;done) | skip
      rename_i i _ es0 clock hget
      injection hes with hes;subst hes
      cases hm with
      | map hr =>
        rename_i rb
        obtain⟨es',e1,e2⟩:∃es':Array MapEntry,w.heap[rb.b]? = some (Obj.map es' clock)∧Ed ρ es0 es'.toList:=h.obj i _ rb hget hr
        exact⟨es',e2,fun f=>by simp[FC e1]⟩
  obtain⟨es',he,hrun⟩:=hent
  have hck:=fun(w:World)=>DK (w:=w) hsk hk es'.isEmpty 9999
  have hfk:=Kw hd hsk hk hf he
  have main:∃v':Value,AZ ρ p.1 v'∧(Instr.lookup t m' k' ok).run P w=.ok (if ok then .tuple #[v',.bool p.2]else v') w:=by
    unfold Instr.lookup
    rw[Sem.run_bind,AL hu]
    simp only[Result.andThen_ok]
    cases r with
    | none =>
      simp only at hfk
      simp only[km]at hp
      obtain⟨z,hz,hp⟩:=hp
      injection hp with hp;subst hp
      obtain⟨z',hz1,hz2⟩:=Mc ρ hz
      refine⟨z',hz2,?_⟩
      refine(hrun _).trans ?_
      simp[hck w,DX hd hfk,hz1]
    | some q =>
      obtain⟨j,v0,b⟩:=q
      simp only[Option.some.injEq]at hp
      subst hp
      obtain⟨v',e',m,q1,q2,_⟩:=hfk
      refine⟨v',q2,?_⟩
      refine(hrun _).trans ?_
      simp[hck w,DX hd q1]
  obtain⟨v',m1,m2⟩:=main
  refine⟨_,m2,?_⟩
  subst hg
  cases ok with
  | true=>exact .tuple (.cons m1 (.cons (.bool _) .nil))
  | false=>exact m1
theorem Ed.setNth{es:List (AV×AV×Nat)}{es':List MapEntry}(h:Ed ρ es es'){v:AV}{k' v':Value}(hv:AZ ρ v v'):∀ {m:Nat}{e':MapEntry},es'[m]? = some e'→e'.key=k' →
  Ed ρ (setNth es m v) (es'.modify m fun e=>{ e with key:=k',val:=v' }):=by
 induction h with
 | nil=>intro m e' h1;simp at h1
 | cons hk0 hv0 hb0 hs ih =>
  intro m e' h1 h2
  cases m with
  | zero =>
   simp at h1
   subst h1
   subst h2
   exact .cons hk0 hv hb0 hs
  | succ m=>exact .cons hk0 hv0 hb0 (ih (by simpa using h1) h2)
theorem Ed.delNth{es:List (AV×AV×Nat)}{es':List MapEntry}(h:Ed ρ es es'):∀ (m:Nat),Ed ρ (delNth es m) (es'.eraseIdx m):=by
 induction h with
 | nil=>intro m;simp[Go.Proofs.Ytilhhmkdcoajnaa.Am.delNth];exact .nil
 | cons hk0 hv0 hb0 hs ih =>
  intro m
  cases m with
  | zero=>exact hs
  | succ m=>exact .cons hk0 hv0 hb0 (ih m)
theorem Ed.append{es fs:List (AV×AV×Nat)}{es' fs':List MapEntry}(h:Ed ρ es es')(k:Ed ρ fs fs'):Ed ρ (es++fs) (es'++fs'):=by
 induction h with
 | nil=>exact k
 | cons hk0 hv0 hb0 hs ih=>exact .cons hk0 hv0 hb0 ih
theorem Yg       {k : AV} {k' : Value} {t : TypeId} (hsk : B2        P t k = true) (hk : AZ   ρ k k') : (Instr.keyThatStays k' k').run P w = .ok k' w := by
  have:Instr.sameBits 10000 k' k'=true:=by
    unfold B2 at hsk
    split at hsk<;>first | (cases hsk;done) | skip
    · cases hk;simp[Instr.sameBits]
    · cases hk with
      | str _ =>
        rename_i s _
        show(s.data == s.data)=true
        simp
  simp[Instr.keyThatStays,this]
theorem JG(h:Bf P ρ s w){i clock clock1:Nat}{es es1:List (AV×AV×Nat)}{es' es1':Array MapEntry}{rb:RB}(hg:s.heap.get i=some (.map es clock))(hr:ρ i=some rb)
  (hb:w.heap[rb.b]? = some (.map es' clock)) (he:Ed ρ es1 es1'.toList):
  Bf P ρ (setObj s i (.map es1 clock1)) { w with heap:=w.heap.setIfInBounds rb.b (.map es1' clock1) } ∧
   Fr ρ s w ρ (setObj s i (.map es1 clock1)) { w with heap:=w.heap.setIfInBounds rb.b (.map es1' clock1) }:=by
 have hlt:=h.lt i rb hr
 exact h.set hg hr rfl (fun p hp=>by cases hp) rfl (by simp) (fun b hne=>by simp[Array.getElem?_setIfInBounds_ne (Ne.symm hne)]) rfl rfl rfl
  ⟨es1',by simp[hlt],he⟩
theorem Lk         (h : Bf  P ρ s w) {t : TypeId} {m k v : AV} {m' k' v' : Value} (hs : EH      P s t m k v = some s1) (hm : AZ   ρ m m') (hk : AZ   ρ k k') (hv : AZ   ρ v v') :
    ∃w1,(Instr.mapUpdate t m' k' v').run P w=.ok () w1∧Bf P ρ s1 w1∧Fr ρ s w ρ s1 w1:=by
  unfold EH at hs
  split at hs<;>first | (cases hs;done) | skip
  rename_i kt et i hu
  obtain⟨hsk,hg⟩:=AK hs
  clear hs
  split at hg<;>first | (cases hg;done) | skip
  rename_i es clock hget
  simp only[km]at hg
  obtain⟨r,hf,hg⟩:=hg
  obtain⟨d,hd,_⟩:=Ds hsk
  cases hm with
  | map hr =>
    rename_i rb
    obtain⟨es',e1,e2⟩:∃es':Array MapEntry,w.heap[rb.b]? = some (Obj.map es' clock)∧Ed ρ es es'.toList:=h.obj i _ rb hget hr
    have hfk:=Kw hd hsk hk hf e2
    have hck:=fun(w:World)=>DK (w:=w) hsk hk false 9999
    split at hg
    · rename_i j v0 b0
      injection hg with hg
      subst hg
      obtain⟨v0',e',m,q1,q2,q3,q4,q5,q6⟩:=hfk
      have hjm:j=m:=by omega
      subst hjm
      have hes1:=e2.setNth hv q4 q5
      have hr1:=JG (clock1:=clock) (es1':=es'.modify j fun e=>{ e with key:=k',val:=v' }) h hget hr e1 (by rw[Array.toList_modify];exact hes1)
      refine⟨_,?_,hr1.1,hr1.2⟩
      have hkey:((es'[j]?.map (·.key)).getD k')=k':=by
        rw[Array.getElem?_toList]at q4
        simp[q4,q5]
      simp[Instr.mapUpdate,AL hu,FC e1,hck w,DX hd q1,hkey,Yg hsk hk,GB _ e1]
    · injection hg with hg
      subst hg
      have hr1:=JG (clock1:=clock+1) (es1':=es'.push { key:=k',val:=v',born:=clock }) h hget hr e1 (by
        rw[Array.toList_push]
        exact e2.append (.cons hk hv rfl .nil))
      refine⟨_,?_,hr1.1,hr1.2⟩
      simp[Instr.mapUpdate,AL hu,FC e1,hck w,DX hd hfk,GB _ e1]
theorem RH         (h : Bf  P ρ s w) {t ty : TypeId} {m k : AV} {m' k' : Value} {tys : Array TypeId} (ht : tys[0]? = some t) (hs : J1      P s t m k = some s1) (hm : AZ   ρ m m') (hk : AZ   ρ k k') :
    ∃w1,(Builtin.delete_ tys ty #[m',k']).run P w=.ok undef w1∧Bf P ρ s1 w1∧Fr ρ s w ρ s1 w1:=by
  unfold J1 at hs
  split at hs<;>first | (cases hs;done) | skip
  rename_i kt et hu
  obtain⟨hsk,hg⟩:=AK hs
  clear hs
  obtain⟨d,hd,_⟩:=Ds hsk
  split at hg<;>first | (cases hg;done) | skip
  · injection hg with hg;subst hg
    cases hm
    exact⟨w,by simp[Builtin.delete_,ht,AL hu,DK hsk hk,undef],h,Fr.refl _ _ _⟩
  · rename_i i
    split at hg<;>first | (cases hg;done) | skip
    rename_i es clock hget
    simp only[km]at hg
    obtain⟨r,hf,hg⟩:=hg
    cases hm with
    | map hr =>
      rename_i rb
      obtain⟨es',e1,e2⟩:∃es':Array MapEntry,w.heap[rb.b]? = some (Obj.map es' clock)∧Ed ρ es es'.toList:=h.obj i _ rb hget hr
      have hfk:=Kw hd hsk hk hf e2
      have hck:=fun(w:World)=>DK (w:=w) hsk hk es'.isEmpty 9999
      split at hg
      · rename_i j v0 b0
        injection hg with hg
        subst hg
        obtain⟨v0',e',m,q1,q2,q3,q4,q5,q6⟩:=hfk
        have hjm:j=m:=by omega
        subst hjm
        have hr1:=JG (clock1:=clock) (es1':=es'.eraseIdxIfInBounds j) h hget hr e1 (by
          rw[Array.toList_eraseIdxIfInBounds]
          exact e2.delNth j)
        refine⟨_,?_,hr1.1,hr1.2⟩
        simp[Builtin.delete_,ht,AL hu,FC e1,hck w,DX hd q1,GB _ e1,undef]
      · injection hg with hg
        subst hg
        have hlt:=h.lt i rb hr
        have hsame:w.heap.setIfInBounds rb.b (.map es' clock)=w.heap:=by
          apply Array.ext (by simp)
          intro j hj1 hj2
          by_cases e:rb.b=j
          · subst e
            rw[Array.getElem?_eq_getElem hlt]at e1
            injection e1 with e1
            simp[e1]
          · rw[Array.getElem_setIfInBounds_ne hj2 e]
        refine⟨w,?_,h,Fr.refl _ _ _⟩
        simp[Builtin.delete_,ht,AL hu,FC e1,hck w,DX hd hfk,GB _ e1,undef,hsame]
end
def JH(sh:Sh)(aS:List AV)(s:AG):Option (AV×AG):=
 match sh with
 | .p1 f=>(match aS with | a::_=>Dx s (f a) | []=>none)
 | .p2 f=>(match aS with | a::b::_=>Dx s (f a b) | _=>none)
 | .p f=>Dx s (f aS)
 | .r1 f=>(match aS with | a::_=>Dx s (f s a) | []=>none)
 | .r f=>Dx s (f s aS)
 | .mk f=>Oq s (f aS)
 | .e f=>f s aS
 | .call _ | .callv=>none
section
variable{P:Program}{ρ ρ1 ρ2:Bp}{s s1 s2:AG}{w w1 w2:World}
theorem CC{x:Option AV}{v:AV}(h:Dx s x=some (v,s1)):x=some v∧s1=s:=by
 cases x with
 | none=>cases h
 | some u=>injection h with h;injection h with h1 h2;exact⟨by rw[h1],h2.symm⟩
theorem Rz{x:Option (Cl×Made)}{v:AV}(h:Oq s x=some (v,s1)):∃o m,x=some (o,m)∧v=m.val s.next∧s1=newObj s o:=by
 cases x with
 | none=>cases h
 | some u=>injection h with h;injection h with h1 h2;exact⟨u.1,u.2,rfl,h1.symm,h2.symm⟩
theorem GE{x:Option AG}{v:AV}(h:AX x=some (v,s1)):x=some s1∧v=BE:=by
 cases x with
 | none=>cases h
 | some u=>injection h with h;injection h with h1 h2;exact⟨by rw[h2],h1.symm⟩
theorem He{f:AV→Option AV}{a v:AV}(h:JH (.p1 f) [a] s=some (v,s1)):f a=some v∧s1=s:=CC h
theorem SB{f:AV→AV→Option AV}{a b v:AV}(h:JH (.p2 f) [a,b] s=some (v,s1)):f a b=some v∧s1=s:=CC h
theorem Me{f:List AV→Option AV}{aS:List AV}{v:AV}(h:JH (.p f) aS s=some (v,s1)):f aS=some v∧s1=s:=CC h
theorem SC{f:AG→AV→Option AV}{a v:AV}(h:JH (.r1 f) [a] s=some (v,s1)):f s a=some v∧s1=s:=CC h
theorem Mf{f:AG→List AV→Option AV}{aS:List AV}{v:AV}(h:JH (.r f) aS s=some (v,s1)):f s aS=some v∧s1=s:=CC h
theorem JI{f:List AV→Option (Cl×Made)}{aS:List AV}{v:AV}(h:JH (.mk f) aS s=some (v,s1)):∃o m,f aS=some (o,m)∧v=m.val s.next∧s1=newObj s o:=Rz h
theorem Yj{f:AG→List AV→Option (AV×AG)}{aS:List AV}{v:AV}(h:JH (.e f) aS s=some (v,s1)):f s aS=some (v,s1):=h
def CM(P:Program)(ρ:Bp)(s:AG)(w:World)(sem:Sem Next)(v:AV)(s':AG):Prop:=
 ∃v' w' ρ',(sem.run P w=.ok (.value v') w'∨(sem.run P w=.ok .skip w'∧v'=undef))∧AZ ρ' v v'∧Bf P ρ' s' w'∧Fr ρ s w ρ' s' w'
theorem CM.pure(h:Bf P ρ s w){sem:Sem Value}{v:AV}(hr:∃v',sem.run P w=.ok v' w∧AZ ρ v v'):CM P ρ s w (do Pure.pure (Next.value (← sem))) v s:=by
 obtain⟨v',h1,h2⟩:=hr
 exact⟨v',w,ρ,.inl (by simp[h1]),h2,h,Fr.refl _ _ _⟩
theorem CM.eff{sem:Sem Value}{v:AV}(hr:SS P ρ s w sem v s1):CM P ρ s w (do Pure.pure (Next.value (← sem))) v s1:=by
 obtain⟨v',w',ρ',h1,h2,h3,h4⟩:=hr
 exact⟨v',w',ρ',.inl (by simp[h1]),h2,h3,h4⟩
theorem CM.new{sem:Sem Value}{o:Cl}{m:Made}(hr:Lz P ρ s w sem o m):CM P ρ s w (do Pure.pure (Next.value (← sem))) (m.val s.next) (newObj s o):=by
 obtain⟨v',w',ρ',h1,h2,h3,h4⟩:=hr
 exact⟨v',w',ρ',.inl (by simp[h1]),h2,h3,h4⟩
theorem CM.unit{sem:Sem Unit}(hr:∃w',sem.run P w=.ok () w'∧Bf P ρ s1 w'∧Fr ρ s w ρ s1 w'):CM P ρ s w (do sem;Pure.pure Next.skip) BE s1:=by
 obtain⟨w',h1,h2,h3⟩:=hr
 exact⟨undef,w',ρ,.inr ⟨by simp[h1],rfl⟩,DY ρ,h2,h3⟩
theorem AS.one{a:List AV}{x':Value}(h:AS ρ a [x']):∃x,a=[x]∧AZ ρ x x':=by
 cases h with
 | cons h hs=>cases hs;exact⟨_,rfl,h⟩
theorem AS.two{a:List AV}{x' y':Value}(h:AS ρ a [x',y']):∃x y,a=[x,y]∧AZ ρ x x'∧AZ ρ y y':=by
 cases h with
 | cons h hs=>obtain⟨y,rfl,hy⟩:=hs.one;exact⟨_,y,rfl,h,hy⟩
theorem AS.three{a:List AV}{x' y' z':Value}(h:AS ρ a [x',y',z']):∃x y z,a=[x,y,z]∧AZ ρ x x'∧AZ ρ y y'∧AZ ρ z z':=by
 cases h with
 | cons h hs=>obtain⟨y,z,rfl,hy,hz⟩:=hs.two;exact⟨_,y,z,rfl,h,hy,hz⟩
theorem Mq{ps:Array (Nat×Operand)}{ev:Operand→Value}{aS:List AV}(h:AS ρ aS ((ps.toList.map (·.2)).map ev)):
    (zipIdx (ps.toList.map (·.1)) aS).map (·.1)=(ps.map fun(p:Nat×Operand)=>(p.1,ev p.2)).toList.map (·.1) ∧
      AS ρ ((zipIdx (ps.toList.map (·.1)) aS).map (·.2)) ((ps.map fun(p:Nat×Operand)=>(p.1,ev p.2)).toList.map (·.2)):=by
  have hlen:=h.length
  simp only[kn]at hlen
  unfold zipIdx
  constructor
  · rw [List.map_fst_zip]
    · simp[Function.comp_def]
    · simp[hlen]
  · rw [List.map_snd_zip]
    · simpa[Function.comp_def]using h
    · simp[hlen]
theorem Lw            (hI : Bf  P ρ s w) {t : TypeId} {x : Operand} {lo hi mx : Option Operand} {ev : Operand → Value} {aS : List AV} {v : AV}
    (h:AS ρ aS (([x]++lo.toList++hi.toList++mx.toList).map ev)) (hs:Ai P t lo.isSome hi.isSome mx.isSome s aS=some v):
    ∃v',(Instr.sliceAt t (ev x) (lo.map ev) (hi.map ev) (mx.map ev)).run P w=.ok v' w∧AZ ρ v v':=by
  cases lo with
  | none =>
    cases hi with
    | none =>
      cases mx with
      | none=>obtain⟨x,rfl,hx⟩:=AS.one h;exact Ep hI (show A2 P s t _ none none none=some v from hs) hx .none .none .none
      | some m=>obtain⟨x,y,rfl,hx,hy⟩:=AS.two h;simp[Ai]at hs
    | some hh =>
      cases mx with
      | none=>obtain⟨x,y,rfl,hx,hy⟩:=AS.two h;exact Ep hI (show A2 P s t _ none (some y) none=some v from hs) hx .none (.some hy) .none
      | some m=>obtain⟨x,y,z,rfl,hx,hy,hz⟩:=AS.three h;exact Ep hI (show A2 P s t _ none (some y) (some z)=some v from hs) hx .none (.some hy) (.some hz)
  | some l =>
    cases hi with
    | none =>
      cases mx with
      | none=>obtain⟨x,y,rfl,hx,hy⟩:=AS.two h;exact Ep hI (show A2 P s t _ (some y) none none=some v from hs) hx (.some hy) .none .none
      | some m=>obtain⟨x,y,z,rfl,hx,hy,hz⟩:=AS.three h;simp[Ai]at hs
    | some hh =>
      cases mx with
      | none=>obtain⟨x,y,z,rfl,hx,hy,hz⟩:=AS.three h;exact Ep hI (show A2 P s t _ (some y) (some z) none=some v from hs) hx (.some hy) (.some hz) .none
      | some m =>
        cases h with
        | cons hx h =>
          obtain⟨y,z,u,rfl,hy,hz,hu⟩:=AS.three h
          exact Ep hI (show A2 P s t _ (some y) (some z) (some u)=some v from hs) hx (.some hy) (.some hz) (.some hu)
theorem YO{op:BinOp}{t:TypeId}{x y:Operand}{neg:Bool}(h:YN P op t x y=some neg):op=bif neg then .neq else .eql:=by
 unfold YN at h
 split at h
 ·cases hb:(Gi x && Gi y && Gh P t)with
  | true=>rw[hb]at h;injection h with h;subst h;rfl
  | false=>rw[hb]at h;cases h
 ·cases hb:(Gi x && Gi y && Gh P t)with
  | true=>rw[hb]at h;injection h with h;subst h;rfl
  | false=>rw[hb]at h;cases h
 ·cases h
theorem LL{i:Nat}(h:Dq s i=true):∃r,s.heap.get i=some (.row r)∧r.mode=.own∧r.par=none:=by
  unfold Dq at h
  split at h
  · rename_i r hr
    rw[Bool.and_eq_true]at h
    refine⟨r,CH hr,?_,?_⟩
    · cases hm:r.mode with
      | own=>rfl
      | _=>rw[hm]at h;cases h.1
    · cases hp:r.par with
      | none=>rfl
      | some _=>rw[hp]at h;cases h.2
  · cases h
theorem UB        (h : Bf  P ρ s w) {neg : Bool} {t : TypeId} {x y v : AV} {x' y' : Value} (hv : Gt     P s neg t x y = some v) (hx : AZ   ρ x x') (hy : AZ   ρ y y') (ox oy : Operand) :
    ∃v',(do eqGuard (bif neg then .neq else .eql) t ox oy x' y';Go.binOp (bif neg then .neq else .eql) t x' y').run P w=.ok v' w∧AZ ρ v v':=by
  unfold Gt at hv
  split at hv
  · rename_i i o j q
    obtain⟨hg,hv⟩:=AK hv
    rw[Bool.and_eq_true,Bool.and_eq_true]at hg
    obtain⟨⟨h1,h2⟩,h3⟩:=hg
    injection hv with hv
    subst hv
    obtain⟨ri,i1,i2,i3⟩:=LL h2
    obtain⟨rj,j1,j2,j3⟩:=LL h3
    unfold NW at h1
    split at h1<;>first | (cases h1;done) | skip
    rename_i te ht
    split at h1<;>first | (cases h1;done) | skip
    rename_i ji hji
    have hsz:ji.size≠0:=fun e=>by rw[e]at h1;cases h1
    cases hx with
    | @ptr _ _ rbi hi =>
    cases hy with
    | @ptr _ _ rbj hj =>
    have oi:GR P ρ w (.row ri) rbi:=h.obj i _ rbi i1 hi
    have oj:GR P ρ w (.row rj) rbj:=h.obj j _ rbj j1 hj
    have oi:Ev ρ w ri rbi:=oi
    have oj:Ev ρ w rj rbj:=oj
    obtain⟨ci,ei,hi1,_⟩:=oi.own (by rw[i2];intro e;cases e)
    obtain⟨cj,ej,hj1,_⟩:=oj.own (by rw[j2];intro e;cases e)
    have core:∃b:Bool,b=(Nat.beq i j && Nat.beq o q)∧(Op.equal t (.pointer (some ⟨rbi.b,rbi.off+o,none⟩)) (.pointer (some ⟨rbj.b,rbj.off+q,none⟩))).run P w=.ok b w:=by
      by_cases e:i=j∧o=q
      · obtain⟨e1,e2⟩:=e
        subst e1 e2
        rw[hi]at hj
        injection hj with hj
        subst hj
        refine⟨true,by simp,?_⟩
        have hd:∀d:Nat,(Op.equalIn (d+1) t (.pointer (some ⟨rbi.b,rbi.off+o,none⟩)) (.pointer (some ⟨rbi.b,rbi.off+o,none⟩))).run P w=.ok true w:=fun d=>by
          simp[Op.equalIn,AL ht,sizeOf,typeInfo,hji,run_sameAddr_same]
        exact hd 9999
      · have hb:(Nat.beq i j && Nat.beq o q)=false:=by
          cases hb:(Nat.beq i j && Nat.beq o q)with
          | false=>rfl
          | true =>
            rw[Bool.and_eq_true]at hb
            exact absurd ⟨lf hb.1,lf hb.2⟩ e
        have hne:(⟨rbi.b,rbi.off+o,none⟩:Addr)≠⟨rbj.b,rbj.off+q,none⟩:=fun ea=>by
          injection ea with e1 e2
          by_cases eij:i=j
          · subst eij
            rw[hi]at hj
            injection hj with hj
            subst hj
            exact e ⟨rfl,by omega⟩
          · have := (h.sep i j _ _ rbi rbj eij i1 j1 hi hj e1 (by show EK    rj.mode = true; rw [j2]; rfl)).1
            have this:rj.par=some i:=this
            rw[j3]at this
            cases this
        refine⟨false,hb.symm,?_⟩
        have hd:∀d:Nat,(Op.equalIn (d+1) t (.pointer (some ⟨rbi.b,rbi.off+o,none⟩)) (.pointer (some ⟨rbj.b,rbj.off+q,none⟩))).run P w=.ok false w:=fun d=>by
          simp[Op.equalIn,AL ht,sizeOf,typeInfo,hji,hsz,run_sameAddr_other w hne hi1 hj1]
        exact hd 9999
    obtain⟨b,hb,hrun⟩:=core
    rw[← hb]
    refine⟨.bool (b != neg),?_,.bool _⟩
    rw[Sem.run_bind,Ez (by rfl)]
    simp only[Result.andThen_ok]
    cases neg with
    | false =>
      have:Go.binOp .eql t (.pointer (some ⟨rbi.b,rbi.off+o,none⟩)) (.pointer (some ⟨rbj.b,rbj.off+q,none⟩))=(do pure (.bool (← Op.equal t _ _)):Sem Value):=rfl
      rw[show(bif false then BinOp.neq else BinOp.eql)=.eql from rfl,this,Sem.run_bind,hrun]
      cases b<;>rfl
    | true =>
      have:Go.binOp .neq t (.pointer (some ⟨rbi.b,rbi.off+o,none⟩)) (.pointer (some ⟨rbj.b,rbj.off+q,none⟩))=(do pure (.bool (!(← Op.equal t _ _))):Sem Value):=rfl
      rw[show(bif true then BinOp.neq else BinOp.eql)=.neq from rfl,this,Sem.run_bind,hrun]
      cases b<;>rfl
  · exact SY hv hx hy ox oy
theorem eq    (h : Bf  P ρ s w) (hf : ρ s.next = none) {o : Oper} {sh : Sh} {xs : List Operand} {ev : Operand → Value} {aS : List AV} {v : AV} (hsh : BK      P o.op = some (sh, xs)) (has : AS    ρ aS (xs.map ev))
    (hr:JH sh aS s=some (v,s1)):CM P ρ s w (execOp ev o) v s1:=by
  cases ho:o.op<;>rw[ho]at hsh<;>first | (simp[BK]at hsh;done) | skip
  case move x =>
    injection hsh with hsh;injection hsh with h1 h2;subst h1;subst h2
    obtain⟨a,rfl,ha⟩:=AS.one has
    obtain⟨hv,rfl⟩:=He hr
    injection hv with hv;subst hv
    exact⟨_,w,ρ,.inl (by simp[execOp,ho]),ha,h,Fr.refl _ _ _⟩
  case assign x =>
    injection hsh with hsh;injection hsh with h1 h2;subst h1;subst h2
    obtain⟨a,rfl,ha⟩:=AS.one has
    obtain⟨hv,rfl⟩:=He hr
    injection hv with hv;subst hv
    exact⟨_,w,ρ,.inl (by simp[execOp,ho]),ha,h,Fr.refl _ _ _⟩
  case pick c a b =>
    injection hsh with hsh;injection hsh with h1 h2;subst h1;subst h2
    obtain⟨x,y,z,rfl,hx,hy,hz⟩:=AS.three has
    obtain⟨hv,rfl⟩:=Me hr
    simp only[Rn,Ro]at hv
    split at hv<;>first | (cases hv;done) | skip
    · injection hv with hv;subst hv
      generalize hc:ev c=c' at hx
      cases hx
      exact⟨_,w,ρ,.inl (by simp[execOp,ho,hc,asBool]),hy,h,Fr.refl _ _ _⟩
    · injection hv with hv;subst hv
      generalize hc:ev c=c' at hx
      cases hx
      exact⟨_,w,ρ,.inl (by simp[execOp,ho,hc,asBool]),hz,h,Fr.refl _ _ _⟩
  case build t ps =>
    injection hsh with hsh;injection hsh with h1 h2;subst h1;subst h2
    obtain⟨hv,rfl⟩:=Me hr
    obtain⟨z1,z2⟩:=Mq has
    simp only[execOp,ho]
    exact CM.pure h (TQ hv z1 z2 w)
  case nilCheck x =>
    injection hsh with hsh;injection hsh with h1 h2;subst h1;subst h2
    obtain⟨a,rfl,ha⟩:=AS.one has
    obtain⟨hv,rfl⟩:=He hr
    obtain⟨v',e1,e2⟩:=Nc (P:=P) (w:=w) hv ha ev o x ho rfl
    exact⟨v',w,ρ,.inl e1,e2,h,Fr.refl _ _ _⟩
  case binOp op t x y f =>
    simp only[BK]at hsh
    split at hsh
    · rename_i neg hp
      injection hsh with hsh;injection hsh with h1 h2;subst h1;subst h2
      obtain⟨a,b,rfl,ha,hb⟩:=AS.two has
      obtain⟨hv,rfl⟩:=Mf hr
      simp only[execOp,ho]
      have hop:op=bif neg then .neq else .eql:=YO hp
      subst hop
      exact CM.pure h (UB h hv ha hb _ _)
    · injection hsh with hsh;injection hsh with h1 h2;subst h1;subst h2
      obtain⟨a,b,rfl,ha,hb⟩:=AS.two has
      obtain⟨hv,rfl⟩:=SB hr
      simp only[execOp,ho]
      exact CM.pure h (SY hv ha hb _ _)
  case unOp op t x =>
    injection hsh with hsh;injection hsh with h1 h2;subst h1;subst h2
    obtain⟨a,rfl,ha⟩:=AS.one has
    obtain⟨hv,rfl⟩:=He hr
    simp only[execOp,ho]
    exact CM.pure h (gr hv ha)
  case makeFunc fn first captured =>
    simp only[BK]at hsh
    split at hsh<;>first | (cases hsh;done) | skip
    rename_i f
    injection hsh with hsh;injection hsh with h1 h2;subst h1;subst h2
    obtain⟨hv,rfl⟩:=Me hr
    injection hv with hv;subst hv
    rw[la]at has
    refine⟨.func (.func f) (first.map ev) (captured.map ev),w,ρ,.inl (by simp[execOp,ho,Instr.makeFunc]),.func ?_ ?_,h,Fr.refl _ _ _⟩
    · have:=has.take first.size
      simpa[List.take_left']using this
    · have:=has.drop first.size
      simpa[List.drop_left']using this
  case fieldAddr t x f =>
    injection hsh with hsh;injection hsh with h1 h2;subst h1;subst h2
    obtain⟨a,rfl,ha⟩:=AS.one has
    obtain⟨hv,rfl⟩:=He hr
    simp only[execOp,ho]
    exact CM.pure h (Lp hv ha)
  case field t x f =>
    injection hsh with hsh;injection hsh with h1 h2;subst h1;subst h2
    obtain⟨a,rfl,ha⟩:=AS.one has
    obtain⟨hv,rfl⟩:=He hr
    simp only[execOp,ho]
    exact CM.pure h (Td hv ha)
  case indexAddr t x i =>
    injection hsh with hsh;injection hsh with h1 h2;subst h1;subst h2
    obtain⟨a,b,rfl,ha,hb⟩:=AS.two has
    obtain⟨hv,rfl⟩:=SB hr
    simp only[execOp,ho]
    exact CM.pure h (Lt hv ha hb)
  case index t x i =>
    injection hsh with hsh;injection hsh with h1 h2;subst h1;subst h2
    obtain⟨a,b,rfl,ha,hb⟩:=AS.two has
    obtain⟨hv,rfl⟩:=SB hr
    simp only[execOp,ho]
    exact CM.pure h (Tq hv ha hb)
  case extract t i =>
    injection hsh with hsh;injection hsh with h1 h2;subst h1;subst h2
    obtain⟨a,rfl,ha⟩:=AS.one has
    obtain⟨hv,rfl⟩:=He hr
    simp only[execOp,ho]
    exact CM.pure h (OV hv ha)
  case load t a =>
    injection hsh with hsh;injection hsh with h1 h2;subst h1;subst h2
    obtain⟨a,rfl,ha⟩:=AS.one has
    obtain⟨hv,rfl⟩:=SC hr
    simp only[execOp,ho]
    obtain⟨v',e1,e2,_⟩:=Ol h hv ha
    exact CM.pure h ⟨v',e1,e2⟩
  case lookup t m k ok =>
    injection hsh with hsh;injection hsh with h1 h2;subst h1;subst h2
    obtain⟨a,b,rfl,ha,hb⟩:=AS.two has
    obtain⟨hv,rfl⟩:=Mf hr
    simp only[execOp,ho]
    exact CM.pure h (RY h hv ha hb)
  case convert src dst x =>
    injection hsh with hsh;injection hsh with h1 h2;subst h1;subst h2
    obtain⟨a,rfl,ha⟩:=AS.one has
    obtain⟨hv,rfl⟩:=SC hr
    simp only[execOp,ho]
    exact CM.pure h (Xd h hv ha)
  case slice t x lo hi mx =>
    injection hsh with hsh;injection hsh with h1 h2;subst h1;subst h2
    obtain⟨hv,rfl⟩:=Mf hr
    simp only[execOp,ho]
    exact CM.pure h (Lw h has hv)
  case alloc e =>
    injection hsh with hsh;injection hsh with h1 h2;subst h1;subst h2
    cases has
    obtain⟨ob,m,hm,rfl,rfl⟩:=JI hr
    simp only[execOp,ho]
    exact CM.new (TN h hf hm)
  case box e x =>
    injection hsh with hsh;injection hsh with h1 h2;subst h1;subst h2
    obtain⟨a,rfl,ha⟩:=AS.one has
    obtain⟨ob,m,hm,rfl,rfl⟩:=JI hr
    simp only[execOp,ho]
    exact CM.new (ZE h hf hm ha)
  case buildSlice t len ps =>
    injection hsh with hsh;injection hsh with h1 h2;subst h1;subst h2
    obtain⟨ob,m,hm,rfl,rfl⟩:=JI hr
    simp only[km]at hm
    obtain⟨r,hr1,hm⟩:=hm
    injection hm with hm;injection hm with h1 h2;subst h1;subst h2
    obtain⟨z1,z2⟩:=Mq has
    simp only[execOp,ho]
    exact CM.new (No h hf hr1 z1 z2)
  case makeMap t r =>
    cases r with
    | some _=>simp[BK]at hsh
    | none =>
      injection hsh with hsh;injection hsh with h1 h2;subst h1;subst h2
      cases has
      obtain⟨ob,m,hm,rfl,rfl⟩:=JI hr
      injection hm with hm;injection hm with h1 h2;subst h1;subst h2
      simp only[execOp,ho]
      exact CM.new (R0 h hf t)
  case makeSlice t l c =>
    injection hsh with hsh;injection hsh with h1 h2;subst h1;subst h2
    obtain⟨a,b,rfl,ha,hb⟩:=AS.two has
    obtain⟨ob,m,hm,rfl,rfl⟩:=JI hr
    simp only[execOp,ho]
    exact CM.new (Lu h hf hm ha hb)
  case store t a x =>
    injection hsh with hsh;injection hsh with h1 h2;subst h1;subst h2
    obtain⟨a,b,rfl,ha,hb⟩:=AS.two has
    obtain⟨hv,rfl⟩:=GE (Yj hr)
    simp only[execOp,ho]
    exact CM.unit (UP h hv ha hb)
  case mapUpdate t m k x =>
    injection hsh with hsh;injection hsh with h1 h2;subst h1;subst h2
    obtain⟨a,b,c,rfl,ha,hb,hc⟩:=AS.three has
    obtain⟨hv,rfl⟩:=GE (Yj hr)
    simp only[execOp,ho]
    exact CM.unit (Lk h hv ha hb hc)
  case insert t m k x =>
    injection hsh with hsh;injection hsh with h1 h2;subst h1;subst h2
    obtain⟨a,b,c,rfl,ha,hb,hc⟩:=AS.three has
    obtain⟨hv,rfl⟩:=GE (Yj hr)
    simp only[execOp,ho]
    exact CM.unit (Lk h hv ha hb hc)
  case call c =>
    obtain⟨callee,args,argTypes⟩:=c
    have hx:∀b,callee=.builtin b→execOp ev o=builtin b argTypes o.type (args.map fun | .const _=>true | _=>false) (args.map ev):=by
      intro b hb
      subst hb
      simp only[execOp,ho,resolve]
      rfl
    simp only[BK]at hsh
    split at hsh
    · injection hsh with hsh;injection hsh with h1 h2;subst h1;subst h2;cases hr
    · injection hsh with hsh;injection hsh with h1 h2;subst h1;subst h2;cases hr
    · cases hsh
    · rename_i b
      rw[hx b rfl]
      have hargs:∀l:List Value,args.toList.map ev=l→args.map ev=l.toArray:=by
        intro l hl
        rw[← hl,← Array.toList_map]
      split at hsh<;>first | (cases hsh;done) | skip
      · split at hsh<;>first | (cases hsh;done) | skip
        rename_i t ht
        injection hsh with hsh;injection hsh with h1 h2;subst h1;subst h2
        obtain⟨hv,rfl⟩:=Mf hr
        split at hv<;>first | (cases hv;done) | skip
        generalize hl:args.toList.map ev=l at has
        cases has with
        | cons hx1 hn =>
          cases hn
          rw[hargs _ hl]
          exact CM.pure h (aA h ht hv hx1)
      · split at hsh<;>first | (cases hsh;done) | skip
        rename_i t ht
        injection hsh with hsh;injection hsh with h1 h2;subst h1;subst h2
        obtain⟨hv,rfl⟩:=Mf hr
        split at hv<;>first | (cases hv;done) | skip
        generalize hl:args.toList.map ev=l at has
        cases has with
        | cons hx1 hn =>
          cases hn
          rw[hargs _ hl]
          exact CM.pure h (Zk h ht hv hx1)
      · injection hsh with hsh;injection hsh with h1 h2;subst h1;subst h2
        obtain⟨hv,rfl⟩:=Me hr
        split at hv<;>first | (cases hv;done) | skip
        generalize hl:args.toList.map ev=l at has
        cases has with
        | cons hx1 hn =>
          rw[hargs _ hl]
          refine CM.pure h ?_
          obtain⟨r',e1,e2⟩:=HA (P:=P) (w:=w) hv hx1 hn
          exact⟨r',by simpa[Builtin.min_]using e1,e2⟩
      · injection hsh with hsh;injection hsh with h1 h2;subst h1;subst h2
        obtain⟨hv,rfl⟩:=Me hr
        split at hv<;>first | (cases hv;done) | skip
        generalize hl:args.toList.map ev=l at has
        cases has with
        | cons hx1 hn =>
          rw[hargs _ hl]
          refine CM.pure h ?_
          obtain⟨r',e1,e2⟩:=HA (P:=P) (w:=w) hv hx1 hn
          exact⟨r',by simpa[Builtin.max_]using e1,e2⟩
      · injection hsh with hsh;injection hsh with h1 h2;subst h1;subst h2
        have hr:Ad P s argTypes.toList aS=some (v,s1):=hr
        have hr0:=hr
        unfold Ad at hr0
        split at hr0<;>first | (cases hr0;done) | skip
        rename_i st xt a len cap x hty _
        clear hr0
        generalize hl:args.toList.map ev=l at has
        obtain⟨a',x',rfl,hx1,hx2⟩:∃a' x',l=[a',x']∧AZ ρ _ a'∧AZ ρ _ x':=by
          cases has with
          | cons h1 h2=>cases h2 with | cons h2 h3=>cases h3;exact⟨_,_,rfl,h1,h2⟩
        rw[hargs _ hl,show argTypes=#[st,xt]from Array.ext' hty]
        rw[hty]at hr
        exact CM.eff (Pk h hf hr hx1 hx2)
      · injection hsh with hsh;injection hsh with h1 h2;subst h1;subst h2
        rw[hargs _ rfl]
        exact CM.eff (Xg h hr (by simpa using has))
      · injection hsh with hsh;injection hsh with h1 h2;subst h1;subst h2
        rw[hargs _ rfl]
        exact CM.eff (TU h hr (by simpa using has))
      · split at hsh<;>first | (cases hsh;done) | skip
        rename_i t ht
        injection hsh with hsh;injection hsh with h1 h2;subst h1;subst h2
        have hr:BU (fun m k=>AX (J1 P s t m k)) aS=some (v,s1):=hr
        unfold BU at hr
        split at hr<;>first | (cases hr;done) | skip
        obtain⟨hv,rfl⟩:=GE hr
        generalize hl:args.toList.map ev=l at has
        obtain⟨a',x',rfl,hx1,hx2⟩:∃a' x',l=[a',x']∧AZ ρ _ a'∧AZ ρ _ x':=by
          cases has with
          | cons h1 h2=>cases h2 with | cons h2 h3=>cases h3;exact⟨_,_,rfl,h1,h2⟩
        rw[hargs _ hl]
        obtain⟨w1,e1,e2,e3⟩:=RH (ty:=o.type) h ht hv hx1 hx2
        exact CM.eff ⟨undef,w1,ρ,e1,DY ρ,e2,e3⟩
end
def AG.sub(s s':AG):Prop:=∀i o,s.heap.get i=some o→s'.heap.get i=some o
section
variable{P:Program}{ρ ρ1 ρ2:Bp}{s s1 s2:AG}{w w1 w2:World}
theorem AG.sub_new(h:s.heap.get s.next=none)(o:Cl):s.sub (newObj s o):=fun i ob e=>by
 rw[CB,if_neg]
 ·exact e
 ·intro q;subst q;rw[h]at e;cases e
theorem FB(h:s.sub s2){i:Nat}{r:EI}(hr:rowAt s i=some r):rowAt s2 i=some r:=by
 have:=h i _ (CH hr)
 simp[rowAt,this]
theorem LC(h:s.sub s2){i o n:Nat}{l:List AV}(hr:loadN s i o n=some l):loadN s2 i o n=some l:=by
 unfold loadN at hr ⊢
 simp only[km]at hr
 obtain⟨r,h1,h2⟩:=hr
 rw[FB h h1]
 exact h2
theorem RV(h:s.sub s2){i o:Nat}{l:AV}(hr:load1 s i o=some l):load1 s2 i o=some l:=by
 unfold load1 at hr ⊢
 simp only[km]at hr
 obtain⟨r,h1,h2⟩:=hr
 rw[FB h h1]
 exact h2
theorem RW(h:s.sub s2){t:TypeId}{a v:AV}(hr:AC P s t a=some v):AC P s2 t a=some v:=by
 unfold AC at hr ⊢
 split at hr<;>first | (cases hr;done) | skip
 simp only[km]at hr ⊢
 obtain⟨g,h1,h2⟩:=hr
 refine⟨g,h1,?_⟩
 cases g with
 | true =>
  simp only[km]at h2 ⊢
  obtain⟨n,h3,l,h4,h5⟩:=h2
  exact⟨n,h3,l,LC h h4,h5⟩
 | false=>exact RV h h2
theorem NZ(h:s.sub s2){t:TypeId}{m k v:AV}{ok:Bool}(hr:C0 P s t m k ok=some v):C0 P s2 t m k ok=some v:=by
  unfold C0 at hr ⊢
  split at hr<;>first | (cases hr;done) | skip
  obtain⟨hk,hg⟩:=AK hr
  clear hr
  rw[hk]
  simp only[AI,cond_true]
  simp only[km]at hg ⊢
  obtain⟨es,h1,rest⟩:=hg
  refine⟨es,?_,rest⟩
  cases m with
  | map r =>
    cases r with
    | none=>exact h1
    | some i =>
      simp only at h1 ⊢
      split at h1<;>first | (cases h1;done) | skip
      rename_i hget
      rw[h i _ hget]
      exact h1
  | _=>cases h1
theorem RG(h:s.sub s2){src dst:TypeId}{x v:AV}(hr:Ck P s src dst x=some v):Ck P s2 src dst x=some v:=by
  unfold Ck at hr ⊢
  split at hr<;>first | (cases hr;done) | skip
  · exact hr
  · exact hr
  · split at hr <;> first | (cases hr; done) | skip
    split at hr
    · exact hr
    · simp only[km]at hr ⊢
      obtain⟨l,h1,rest⟩:=hr
      exact⟨l,LC h h1,rest⟩
theorem PK          (h : s.sub s2) {t : TypeId} {x v : AV} {lo hi mx : Option AV} (hr : A2     P s t x lo hi mx = some v) : A2     P s2 t x lo hi mx = some v := by
  unfold A2 at hr ⊢
  split at hr<;>first | (cases hr;done) | skip
  · exact hr
  · rename_i a len cap
    split at hr<;>first | (cases hr;done) | skip
    simp only[km]at hr ⊢
    obtain⟨n,h1,far,h2,rest⟩:=hr
    refine⟨n,h1,far,?_,rest⟩
    cases cap with
    | some c=>exact h2
    | none =>
      cases a with
      | none=>exact h2
      | some io =>
        obtain⟨i,o⟩:=io
        simp only[km]at h2 ⊢
        obtain⟨r,h3,h4⟩:=h2
        exact⟨r,FB h h3,h4⟩
  · exact hr
theorem Jt(h:s.sub s2){t:TypeId}{lo hi mx:Bool}{aS:List AV}{v:AV}(hr:Ai P t lo hi mx s aS=some v):Ai P t lo hi mx s2 aS=some v:=by
 unfold Ai at hr ⊢
 split at hr<;>first | (cases hr;done) | skip
 all_goals
  split at hr<;>first | (cases hr;done) | exact PK h hr
theorem Tt(h:s.sub s2){t:TypeId}{x v:AV}(hr:A6 P s t x=some v):A6 P s2 t x=some v:=by
  unfold A6 at hr ⊢
  split at hr<;>first | (cases hr;done) | skip
  · exact hr
  · exact hr
  · exact hr
  · split at hr <;> first | (cases hr; done) | skip
    split at hr<;>first | (cases hr;done) | skip
    rename_i hget
    rw[h _ _ hget]
    exact hr
theorem TT(h:s.sub s2){t:TypeId}{x v:AV}(hr:TS P s t x=some v):TS P s2 t x=some v:=by
  unfold TS at hr ⊢
  split at hr<;>first | (cases hr;done) | skip
  split at hr<;>first | (cases hr;done) | skip
  split at hr
  · exact hr
  · split at hr <;> first | (cases hr; done) | skip
    simp only[km]at hr ⊢
    obtain⟨n,h1,r,h2,h3⟩:=hr
    exact⟨n,h1,r,FB h h2,h3⟩
theorem Jb(h:s.sub s2){i:Nat}(hr:Dq s i=true):Dq s2 i=true:=by
  unfold Dq at hr ⊢
  split at hr
  · rename_i r hrow
    rw[FB h hrow]
    exact hr
  · cases hr
theorem O4(h:s.sub s2){neg:Bool}{t:TypeId}{x y v:AV}(hr:Gt P s neg t x y=some v):Gt P s2 neg t x y=some v:=by
 unfold Gt at hr ⊢
 split at hr
 ·obtain⟨hg,hv⟩:=AK hr
  rw[Bool.and_eq_true,Bool.and_eq_true]at hg
  obtain⟨⟨h1,h2⟩,h3⟩:=hg
  rw[h1,Jb h h2,Jb h h3]
  exact hv
 ·exact hr
theorem O0{α:Type}{f g:AV→Option α}(hm:∀a v,f a=some v→g a=some v){aS:List AV}{v:α}(h:one f aS=some v):one g aS=some v:=by
 unfold one at h ⊢
 split at h<;>first | (cases h;done) | exact hm _ _ h
theorem Oz{α:Type}{f g:AV→AV→Option α}(hm:∀a b v,f a b=some v→g a b=some v){aS:List AV}{v:α}(h:BU f aS=some v):BU g aS=some v:=by
 unfold BU at h ⊢
 split at h<;>first | (cases h;done) | exact hm _ _ _ h
theorem UD(h:s.sub s2){o:Op}{sh:Sh}{xs:List Operand}{aS:List AV}{v:AV}(hsh:BK P o=some (sh,xs))(hr:Eb sh aS s=some v):Eb sh aS s2=some v:=by
 cases o<;>first | (simp[BK]at hsh;done) | skip
 case binOp op t x y f =>
  simp only[BK]at hsh
  split at hsh
  ·injection hsh with hsh;injection hsh with h1 h2;subst h1;exact Oz (fun _ _ _=>O4 h) hr
  ·injection hsh with hsh;injection hsh with h1 h2;subst h1;cases hr
 case load t a=>injection hsh with hsh;injection hsh with h1 h2;subst h1;exact O0 (fun _ _=>RW h) hr
 case lookup t m k ok=>injection hsh with hsh;injection hsh with h1 h2;subst h1;exact Oz (fun _ _ _=>NZ h) hr
 case convert src dst x=>injection hsh with hsh;injection hsh with h1 h2;subst h1;exact O0 (fun _ _=>RG h) hr
 case slice t x lo hi mx=>injection hsh with hsh;injection hsh with h1 h2;subst h1;exact Jt h hr
 case call c =>
  obtain⟨callee,args,argTypes⟩:=c
  simp only[BK]at hsh
  split at hsh<;>first | (cases hsh;done) | (injection hsh with hsh;injection hsh with h1 h2;subst h1;cases hr;done) | skip
  split at hsh<;>first | (cases hsh;done) | (injection hsh with hsh;injection hsh with h1 h2;subst h1;cases hr;done) | skip
  ·split at hsh<;>first | (cases hsh;done) | skip
   injection hsh with hsh;injection hsh with h1 h2;subst h1
   simp only[Eb]at hr ⊢
   split at hr<;>first | (cases hr;done) | exact Tt h hr
  ·split at hsh<;>first | (cases hsh;done) | skip
   injection hsh with hsh;injection hsh with h1 h2;subst h1
   simp only[Eb]at hr ⊢
   split at hr<;>first | (cases hr;done) | exact TT h hr
  ·split at hsh<;>first | (cases hsh;done) | skip
   injection hsh with hsh;injection hsh with h1 h2;subst h1;cases hr
 case makeMap t r =>
  cases r with
  | some _=>cases hsh
  | none=>injection hsh with hsh;injection hsh with h1 h2;subst h1;cases hr
 case makeFunc fn first captured =>
  cases fn with
  | func f=>injection hsh with hsh;injection hsh with h1 h2;subst h1;cases hr
  | _=>cases hsh
 all_goals (injection hsh with hsh;injection hsh with h1 h2;subst h1;cases hr)
end
theorem Nd(l:List AV)(i:Nat):S8 l i=l.getD i BE:=by
  induction l generalizing i with
  | nil=>rfl
  | cons a l ih =>
    cases i with
    | zero=>rfl
    | succ i=>exact ih i
theorem Nf{l:List AV}{i:Nat}{v:AV}(h:l[i]? = some v):S8 l i=v:=by rw[Nd];simp[h]
theorem JQ(v:AV)(l:List AV)(i:Nat):Lj v l i=l.set i v:=by
  induction l generalizing i with
  | nil=>rfl
  | cons a l ih =>
    cases i with
    | zero=>rfl
    | succ i=>exact congrArg (a::·) (ih i)
theorem Ng{v:AV}{l:List AV}{i:Nat}(h:i<l.length):S8 (Lj v l i) i=v:=by
 rw[Nd,JQ];simp[h]
theorem HN{v:AV}{l:List AV}{i j:Nat}(h:i≠j):S8 (Lj v l j) i=S8 l i:=by
 rw[Nd,Nd,JQ];simp[md (Ne.symm h)]
theorem FL{vars:List Tmp}{t:Tmp}:∀ {j:Nat},Br vars t=some j→vars[j]? = some t:=by
 induction vars with
 | nil=>intro j h;cases h
 | cons a l ih =>
  intro j h
  unfold Br at h
  cases hb:Nat.beq a t with
  | true =>
   rw[hb]at h
   simp only[cond_true,Option.some.injEq]at h
   subst h
   rw[Aq hb]
   rfl
  | false =>
   rw[hb]at h
   simp only[cond_false,km]at h
   obtain⟨i,h1,h2⟩:=h
   injection h2 with h2
   subst h2
   exact ih h1
theorem E8{vars:List Tmp}{t:Tmp}{j:Nat}(h:Br vars t=some j):j<vars.length:=by
 have:=FL h
 rcases ks j vars.length with h' | h'
 ·exact h'
 ·rw[lQ h']at this;cases this
theorem Jc{vars:List Tmp}{t u:Tmp}{j:Nat}(h:Br vars t=some j)(k:Br vars u=some j):t=u:=by
 have h1:=FL h
 have h2:=FL k
 rw[h1]at h2
 injection h2
mutual
theorem Xn     : ∀ {a b : AV}, Fs  a b = true → a = b := by
  intro a b h
  unfold Fs at h
  split at h
  · simp at h;rw[h]
  · simp only[Bool.and_eq_true]at h;have:=FN h.1;subst this;have h2:=h.2;rw[F1]at h2;simp at h2;rw[h2]
  · rename_i x y
    have:∀x y:List Nat,GL x y=true→x=y:=by
      intro x
      induction x with
      | nil=>intro y h;cases y with | nil=>rfl | cons=>cases h
      | cons a x ih =>
        intro y h
        cases y with
        | nil=>cases h
        | cons b y =>
          unfold GL at h
          cases hb:Nat.beq a b with
          | true=>rw[hb]at h;rw[Aq hb,ih y h]
          | false=>rw[hb]at h;cases h
    rw[this _ _ h]
  · rfl
  · simp only[Bool.and_eq_true]at h;rw[Aq h.1,Aq h.2]
  · simp only[Bool.and_eq_true]at h;rw[Aq h.1,Aq h.2]
  · rw[Aq h]
  · simp only[Bool.and_eq_true]at h;rw[Aq h.1.1,Aq h.1.2,Aq h.2]
  · simp only[Bool.and_eq_true]at h;rw[Aq h.1.1.1,Aq h.1.1.2,Aq h.1.2,Aq h.2]
  · rfl
  · rw[Aq h]
  · simp only[Bool.and_eq_true]at h;rw[Aq h.1.1,Hz h.1.2,Hz h.2]
  · rfl
  · rfl
  · rw[Aq h]
  · rw[Hz h]
  · rw[Hz h]
  · cases h
theorem Hz:∀ {a b:List AV},Fs.eqAs a b=true→a=b:=by
 intro a b h
 unfold Fs.eqAs at h
 split at h
 ·rfl
 ·simp only[Bool.and_eq_true]at h;rw[Xn h.1,Hz h.2]
 ·cases h
end
abbrev B5:=Tmp→Option AV
def B5.put(R:B5)(d:Option Tmp)(v:AV):B5:=match d with
 | none=>R
 | some d=>fun t=>if t=d then some v else R t
def O6(R:B5):Operand→Option AV
 | .tmp t=>R t
 | .const v=>ofValue v
 | .global _=>none
 | .func f=>some (.func f [] [])
def EA(R:B5):List Operand→Option (List AV)
 | []=>some []
 | x::l=>(O6 R x).bind fun a=>(EA R l).bind fun r=>some (a::r)
def Ic(ops:Array Oper)(R:B5)(o:Oper):Option Bool:=match o.guard with
 | none=>some true
 | some (j,want)=>(ops[j]?).bind fun p=>p.dst.bind fun d=>(R d).bind fun x=>some (gy want x)
def Y2(F:Dy)(sh:Sh)(aS:List AV)(s:AG):Option (AV×AG):=
 match sh with
 | .call f=>F.call f aS s
 | .callv=>(match aS with | a::l=>GZ F a l s | []=>none)
 | _=>JH sh aS s
structure Ph where
 idx:Nat
 sh:Sh
 aS:List AV
 v:AV
 want:Bool
structure KJ(P:Program)(F:Dy)(ops:Array Oper)(nt:Nat)(R:B5)(s:AG)(o:Oper)(sh:Sh)(want:Bool)(aS:List AV)(v:AV)(R1:B5)(s1:AG):Prop where
 shape:∃xs,BK P o.op=some (sh,xs)∧EA R xs=some aS
 wants:Ic ops R o=some want
 put:R1=R.put o.dst v
 lt:∀d,o.dst=some d→d<nt
 yes:want=true→Y2 F sh aS s=some (v,s1)
 no:want=false→v=BE∧s1=s
inductive Trace (P:Program) (F:Dy) (ops:Array Oper) (nt:Nat) (b:Array Nat) (draw:Bool):List Nat→List Ph→B5→AG→B5→AG→Prop
 | nil {rs:List Ph} {R:B5} {s:AG}:Trace P F ops nt b draw [] rs R s R s
 | cons {i:Nat} {l:List Nat} {rs:List Ph} {R R1 R2:B5} {s s1 s2:AG} {o:Oper} {sh:Sh} {want:Bool} {aS:List AV} {v:AV}
   (ho:ops[i]? = some o) (hs:KJ P F ops nt R s o sh want aS v R1 s1)
   (ag:draw=true→sh.isEff=true→want=true→∀r∈rs,(b.getD i 0).testBit r.idx=false→r.want=true→Eb r.sh r.aS s1=some r.v)
   (hl:Trace P F ops nt b draw l (bif draw && sh.isRead then ⟨i,sh,aS,v,want⟩::rs else rs) R1 s1 R2 s2):Trace P F ops nt b draw (i::l) rs R s R2 s2
structure EQ(vars:List Tmp)(c:Y4)(loc var:List AV)(R:B5):Prop where
 vlen:var.length=vars.length
 bnd:∀t p,EZ c.map t=some (.loc p)→p<c.cnt
 keys:∀t x,EZ c.map t=some x→Br vars t=none
 val:∀t x,Ec vars c t=some x→R t=some (Da loc var (CN c.cnt x))
theorem Tu:∀ {m:List (Tmp×CX)}{t:Tmp}{x:CX},EZ m t=some x→(t,x)∈m:=by
 intro m
 induction m with
 | nil=>intro t x h;cases h
 | cons p m ih =>
  obtain⟨a,y⟩:=p
  intro t x h
  unfold EZ at h
  cases hb:Nat.beq a t with
  | true =>
   rw[hb]at h
   simp only[cond_true,Option.some.injEq]at h
   rw[Aq hb,h]
   exact kx
  | false =>
   rw[hb]at h
   exact kz _ (ih h)
theorem Ox:∀ {m:List (Tmp×CX)}{j:Nat},IL j m=true→∀t,(t,CX.var j) ∉ m:=by
 intro m
 induction m with
 | nil=>intro j h t hm;cases hm
 | cons p m ih =>
  obtain⟨a,y⟩:=p
  intro j h t hm
  simp only[IL,Bool.and_eq_true,Bool.not_eq_true']at h
  cases hm with
  | head=>simp[isVar]at h
  | tail _ hm=>exact ih h.2 t hm
theorem D6(m:List (Tmp×CX))(d t:Tmp)(x:CX):EZ ((d,x)::m) t=if t=d then some x else EZ m t:=by
 simp only[EZ]
 by_cases e:t=d
 ·subst e;simp
 ·have:Nat.beq d t=false:=by
   cases hb:Nat.beq d t with
   | true=>exact absurd (Aq hb).symm e
   | false=>rfl
  rw[this,if_neg e,cond_false]
theorem Eo{loc var:List AV}{v:AV}{cnt:Nat}{x:CX}(h:∀p,x=.loc p→p<cnt):Da (v::loc) var (CN (cnt+1) x)=Da loc var (CN cnt x):=by
 cases x with
 | loc p =>
  have:=h p rfl
  simp only[CN,Da]
  rw[show cnt+1 - 1 - p=(cnt - 1 - p)+1 from by omega]
  rfl
 | var j=>rfl
 | const v=>rfl
variable{vars:List Tmp}{c:Y4}{loc var:List AV}{R:B5}
theorem EQ.push(h:EQ vars c loc var R){d:Tmp}(v:AV)(hd:Br vars d=none):EQ vars { map:=(d,.loc c.cnt)::c.map,cnt:=c.cnt+1 } (v::loc) var (R.put (some d) v):=by
  refine⟨h.vlen,?_,?_,?_⟩
  · intro t p hp
    rw[D6]at hp
    split at hp
    · injection hp with hp;injection hp with hp;subst hp;exact lW _
    · exact mU (h.bnd t p hp)
  · intro t x hx
    rw[D6]at hx
    split at hx
    · rename_i e;subst e;exact hd
    · exact h.keys t x hx
  · intro t x hx
    unfold Ec at hx
    simp only[D6]at hx
    by_cases e:t=d
    · subst e
      simp only[if_true,Option.some.injEq]at hx
      subst hx
      simp only[B5.put,if_true,CN,Da]
      rw[show c.cnt+1 - 1 - c.cnt=0 from by omega]
      rfl
    · simp only [if_neg e] at hx
      simp only[B5.put,if_neg e]
      have hx':Ec vars c t=some x:=by unfold Ec;exact hx
      rw[h.val t x hx',Eo]
      intro p hp
      subst hp
      cases hl:EZ c.map t with
      | some y=>rw[hl]at hx;injection hx with hx;subst hx;exact h.bnd t p hl
      | none=>rw[hl]at hx;simp only[km]at hx;obtain⟨j,_,hx⟩:=hx;cases hx
theorem LU(h:EQ vars c loc var R){t:Tmp}{x:CX}(hx:Ec vars c t=some x):∀p,x=.loc p→p<c.cnt:=by
 intro p hp
 subst hp
 unfold Ec at hx
 cases hl:EZ c.map t with
 | some y=>rw[hl]at hx;injection hx with hx;subst hx;exact h.bnd t p hl
 | none=>rw[hl]at hx;simp only[km]at hx;obtain⟨j,_,hx⟩:=hx;cases hx
theorem LH(h:EQ vars c loc var R){o:Operand}{x:CX}(hx:FK vars c o=some x):∀p,x=.loc p→p<c.cnt:=by
 cases o with
 | tmp t=>exact LU h hx
 | const v =>
  intro p hp
  subst hp
  simp only[FK,km]at hx
  obtain⟨a,_,hx⟩:=hx
  cases hx
 | global g=>cases hx
 | func f=>intro p hp;subst hp;simp[FK]at hx
theorem EQ.pushNone(h:EQ vars c loc var R)(v:AV):EQ vars { c with cnt:=c.cnt+1 } (v::loc) var R:=by
 refine⟨h.vlen,fun t p hp=>mU (h.bnd t p hp),h.keys,?_⟩
 intro t x hx
 have hx':Ec vars c t=some x:=hx
 rw[h.val t x hx',Eo (LU h hx')]
theorem EQ.set   (h : EQ   vars c loc var R) {d : Tmp} {j : Nat} (v : AV) (hd : Br      vars d = some j) (hn : IL      j c.map = true) : EQ   vars c loc (Lj  v var j) (R.put (some d) v) := by
  refine⟨by rw[JQ,kv];exact h.vlen,h.bnd,h.keys,?_⟩
  intro t x hx
  have hj:j<var.length:=by rw[h.vlen];exact E8 hd
  by_cases e:t=d
  · subst e
    unfold Ec at hx
    cases hl:EZ c.map t with
    | some y=>have:=h.keys t y hl;rw[hd]at this;cases this
    | none =>
      rw[hl,hd]at hx
      injection hx with hx
      subst hx
      simp only[B5.put,if_true,CN,Da]
      rw[Ng hj]
  · simp only[B5.put,if_neg e]
    rw[h.val t x hx]
    congr 1
    cases x with
    | loc p=>rfl
    | const v=>rfl
    | var i =>
      simp only[CN,Da]
      rw[HN]
      intro q
      subst q
      unfold Ec at hx
      cases hl:EZ c.map t with
      | some y=>rw[hl]at hx;injection hx with hx;subst hx;exact Ox hn t (Tu hl)
      | none =>
        rw[hl]at hx
        simp only[km]at hx
        obtain⟨k,hk,hx⟩:=hx
        injection hx with hx
        injection hx with hx
        subst hx
        exact e (Jc hk hd)
theorem EQ.alias(h:EQ vars c loc var R){d:Tmp}{o:Operand}{x:CX}(hx:FK vars c o=some x)(hd:Br vars d=none):
    EQ vars { c with map:=(d,x)::c.map } loc var (R.put (some d) (Da loc var (CN c.cnt x))):=by
  refine⟨h.vlen,?_,?_,?_⟩
  · intro t p hp
    rw[D6]at hp
    split at hp
    · injection hp with hp;subst hp;exact LH h hx p rfl
    · exact h.bnd t p hp
  · intro t y hy
    rw[D6]at hy
    split at hy
    · rename_i e;subst e;exact hd
    · exact h.keys t y hy
  · intro t y hy
    unfold Ec at hy
    simp only[D6]at hy
    by_cases e:t=d
    · subst e
      simp only[if_true,Option.some.injEq]at hy
      subst hy
      simp only[B5.put,if_true]
    · simp only [if_neg e] at hy
      simp only[B5.put,if_neg e]
      exact h.val t y hy
theorem LJ(h:EQ vars c loc var R){o:Operand}{x:CX}(hx:FK vars c o=some x):O6 R o=some (Da loc var (CN c.cnt x)):=by
 cases o with
 | tmp t=>exact h.val t x hx
 | const v =>
  simp only[FK,km]at hx
  obtain⟨a,h1,h2⟩:=hx
  injection h2 with h2
  subst h2
  exact h1
 | global g=>cases hx
 | func f=>injection hx with hx;subst hx;rfl
theorem MV(h:EQ vars c loc var R):∀ {l:List Operand}{xs:List CX},Hb vars c l=some xs→EA R l=some (D3 loc var (xs.map (CN c.cnt)))
 | [],xs,hx=>by injection hx with hx;subst hx;rfl
 | o::l,xs,hx=>by
  simp only[Hb,km]at hx
  obtain⟨a,h1,r,h2,h3⟩:=hx
  injection h3 with h3
  subst h3
  simp only[EA,LJ h h1,MV h h2,Option.bind_some,mA]
  rfl
theorem aY{F:Dy}{sh:Sh}{xs:List CX}{loc var:List AV}{s:AG}{p:AV×AG}(h:gn F sh xs loc var s=some p):Y2 F sh (D3 loc var xs) s=some p:=by
 cases sh with
 | p1 f=>cases xs with
  | nil=>cases h
  | cons x l=>exact h
 | p2 f=>cases xs with
  | nil=>cases h
  | cons x l=>cases l with
   | nil=>cases h
   | cons y l=>exact h
 | p f=>exact h
 | r1 f=>cases xs with
  | nil=>cases h
  | cons x l=>exact h
 | r f=>exact h
 | mk f=>exact h
 | e f=>exact h
 | call f=>exact h
 | callv=>cases xs with
  | nil=>cases h
  | cons x l=>exact h
def M0(cnt:Nat)(x:CX):Prop:=∀p,x=.loc p→p<cnt
structure Ho(loc var:List AV)(cnt:Nat)(r:Nat×GN)(q:Ph):Prop where
 idx:r.1=q.idx
 sh:r.2.sh=q.sh
 aS:D3 loc var (r.2.xs.map (CN cnt))=q.aS
 v:Da loc var (CN cnt r.2.ans)=q.v
 want:BW loc var (HG cnt r.2.guard)=q.want
 bx:∀x∈r.2.xs,M0 cnt x
 ba:∃p,r.2.ans=.loc p∧p<cnt
 bg:∀x b,r.2.guard=some (x,b)→M0 cnt x
inductive FX (loc var:List AV) (cnt:Nat):List (Nat×GN)→List Ph→Prop
 | nil:FX loc var cnt [] []
 | cons {r:Nat×GN} {q:Ph} {l:List (Nat×GN)} {m:List Ph} (h:Ho loc var cnt r q) (hl:FX loc var cnt l m):FX loc var cnt (r::l) (q::m)
theorem Ip{loc var:List AV}{v:AV}{cnt:Nat}:∀ {xs:List CX},(∀x∈xs,M0 cnt x)→D3 (v::loc) var (xs.map (CN (cnt+1)))=D3 loc var (xs.map (CN cnt))
 | [],_=>rfl
 | x::l,h=>by
  show Da (v::loc) var (CN (cnt+1) x)::D3 (v::loc) var (l.map (CN (cnt+1)))=Da loc var (CN cnt x)::D3 loc var (l.map (CN cnt))
  rw[Eo (h x kx),Ip fun y hy=>h y (kz _ hy)]
theorem M0.succ{cnt:Nat}{x:CX}(h:M0 cnt x):M0 (cnt+1) x:=fun p hp=>mU (h p hp)
theorem Ho.push{loc var:List AV}{cnt:Nat}{r:Nat×GN}{q:Ph}(h:Ho loc var cnt r q)(v:AV):Ho (v::loc) var (cnt+1) r q:=by
  obtain⟨p,hp,hlt⟩:=h.ba
  refine⟨h.idx,h.sh,(Ip h.bx).trans h.aS,?_,?_,fun x hx=>(h.bx x hx).succ,⟨p,hp,mU hlt⟩,fun x b e=>(h.bg x b e).succ⟩
  · rw [Eo]
    · exact h.v
    · intro p' e;rw[hp]at e;injection e with e;subst e;exact hlt
  · rw[← h.want]
    cases hg:r.2.guard with
    | none=>rfl
    | some g =>
      obtain⟨x,b⟩:=g
      simp only[HG,BW]
      rw[Eo (h.bg x b hg)]
theorem FX.push{loc var:List AV}{cnt:Nat}{rs:List (Nat×GN)}{m:List Ph}(h:FX loc var cnt rs m)(v:AV):FX (v::loc) var (cnt+1) rs m:=by
 induction h with
 | nil=>exact .nil
 | cons h _ ih=>exact .cons (h.push v) ih
theorem Sp{loc var:List AV}{v:AV}{j:Nat}{x:CX}(h:isVar j x=false):Da loc (Lj v var j) x=Da loc var x:=by
 cases x with
 | loc p=>rfl
 | const c=>rfl
 | var i =>
  simp only[Da]
  rw[HN]
  intro e
  subst e
  simp[isVar]at h
theorem MR{cnt j:Nat}{x:CX}:isVar j (CN cnt x)=isVar j x:=by cases x<;>rfl
theorem OO{loc var:List AV}{v:AV}{j cnt:Nat}:∀ {xs:List CX},(xs.all fun x=>!isVar j x)=true→D3 loc (Lj v var j) (xs.map (CN cnt))=D3 loc var (xs.map (CN cnt))
 | [],_=>rfl
 | x::l,h=>by
  simp only[List.all_cons,Bool.and_eq_true,Bool.not_eq_true']at h
  show Da loc (Lj v var j) (CN cnt x)::D3 loc (Lj v var j) (l.map (CN cnt))=Da loc var (CN cnt x)::D3 loc var (l.map (CN cnt))
  rw[Sp (by rw[MR];exact h.1),OO h.2]
theorem Ho.set{loc var:List AV}{cnt j:Nat}{r:Nat×GN}{q:Ph}(h:Ho loc var cnt r q)(v:AV)(hf:Nh j r.2=true):Ho loc (Lj v var j) cnt r q:=by
 obtain⟨p,hp,hlt⟩:=h.ba
 simp only[Nh,Bool.and_eq_true]at hf
 refine⟨h.idx,h.sh,(OO hf.2).trans h.aS,?_,?_,h.bx,h.ba,h.bg⟩
 ·rw[← h.v,hp];rfl
 ·rw[← h.want]
  cases hg:r.2.guard with
  | none=>rfl
  | some g =>
   obtain⟨x,b⟩:=g
   have:=hf.1
   rw[hg]at this
   simp only[Bool.not_eq_true']at this
   simp only[HG,BW]
   rw[Sp (by rw[MR];exact this)]
theorem FX.set{loc var:List AV}{cnt j:Nat}{rs:List (Nat×GN)}{m:List Ph}(h:FX loc var cnt rs m)(v:AV)(hf:(rs.all fun r=>Nh j r.2)=true):FX loc (Lj v var j) cnt rs m:=by
 induction h with
 | nil=>exact .nil
 | cons h _ ih =>
  simp only[List.all_cons,Bool.and_eq_true]at hf
  exact .cons (h.set v hf.1) (ih hf.2)
theorem Ul       {s : AG}  {loc var : List AV} {cnt : Nat} {f : Nat × GN  → Bool} : ∀ {rs : List (Nat × GN)}  {m : List Ph},  FX    loc var cnt rs m → ER     s loc var ((rs.filter f).map fun r => IT    cnt r.2) = true →
    ∀q∈m,(∀r:Nat×GN,r.1=q.idx→f r=true)→q.want=true→Eb q.sh q.aS s=some q.v:=by
  intro rs m h
  induction h with
  | nil=>intro _ q hq;cases hq
  | cons h hl ih =>
    rename_i r q l m
    intro hag q' hq' hf hw
    simp only[List.filter_cons]at hag
    cases hq' with
    | head =>
      rw[if_pos (hf r h.idx)]at hag
      have hag:(Fx s loc var (IT cnt r.2) && ER s loc var ((l.filter f).map fun r=>IT cnt r.2))=true:=hag
      simp only[Bool.and_eq_true]at hag
      have h1:=hag.1
      simp only[Fx,IT,h.want,hw,Bool.not_true,Bool.false_or,h.aS,h.v,h.sh]at h1
      cases hr:Eb q.sh q.aS s with
      | none=>rw[hr]at h1;cases h1
      | some u =>
        rw[hr]at h1
        have:=Xn (show Fs u q.v=true from h1)
        rw[this]
    | tail _ hq' =>
      refine ih ?_ q' hq' hf hw
      by_cases hfr:f r=true
      · rw[if_pos hfr]at hag
        have hag:(Fx s loc var (IT cnt r.2) && ER s loc var ((l.filter f).map fun r=>IT cnt r.2))=true:=hag
        simp only[Bool.and_eq_true]at hag
        exact hag.2
      · rw[if_neg hfr]at hag
        exact hag
theorem Xt       {P : Program} {vars : List Tmp} {c : Y4}  {loc var : List AV} {R : B5}   {ops : Array Oper} {o : Oper} {g : Option (CX × Bool)} (h : EQ   vars c loc var R)
    (hg:(match o.guard with
        | none=>some none
        | some (j,want)=>(ops[j]?).bind fun p=>p.dst.bind fun d=>(Ec vars c d).bind fun x=>some (some (x,want)))=some g):
    Ic ops R o=some (BW loc var (HG c.cnt g))∧∀x b,g=some (x,b)→M0 c.cnt x:=by
  unfold Ic
  split at hg
  · rename_i he
    injection hg with hg
    subst hg
    try rw[he]
    exact⟨rfl,fun x b e=>by cases e⟩
  · rename_i j want he
    simp only[km]at hg
    obtain⟨p,h1,d,h2,x,h3,h4⟩:=hg
    injection h4 with h4
    subst h4
    try rw[he]
    refine⟨?_,fun y b e=>by injection e with e;injection e with e1 e2;subst e1;exact LU h h3⟩
    simp only[h1,h2,Option.bind_some,h.val d x h3,HG,BW]
theorem RF         {P : Program} {F : Dy}  {nt : Nat} {vars : List Tmp} {ops : Array Oper} {b : Array Nat} {draw : Bool} :
    ∀ (l:List Nat) (c:Y4) (rs:List (Nat×GN)) (items:List AA) (loc var:List AV) (s:AG) (var':List AV) (s':AG) (R:B5) (m:List Ph),
      Eh P nt vars ops b draw l c rs=some items→EU F items loc var s=some (var',s')→EQ vars c loc var R→FX loc var c.cnt rs m →
      ∃R',Trace P F ops nt b draw l m R s R' s'∧∃c' loc',EQ vars c' loc' var' R':=by
  intro l
  induction l with
  | nil =>
    intro c rs items loc var s var' s' R m hc hi hr hm
    injection hc with hc
    subst hc
    have hi:some (var,s)=some (var',s'):=hi
    injection hi with hi
    injection hi with h1 h2
    subst h1;subst h2
    exact⟨R,.nil,c,loc,hr⟩
  | cons i l ih =>
    intro c rs items loc var s var' s' R m hc hi hr hm
    simp only[Eh,km]at hc
    obtain⟨o,ho,sh,hsh,xs,hxs,hc⟩:=hc
    split at hc
    ·
      rename_i x d hal hd
      obtain⟨hlt,hc⟩:=AK hc
      have hlt:d<nt:=by simpa[lP]using hlt
      have hx1:xs=[x]∧Jx vars (l.map fun j=>(ops.getD j default).dst) o x=true:=by
        split at hal
        · rename_i y
          cases ha:Jx vars (l.map fun j=>(ops.getD j default).dst) o y with
          | true=>rw[ha]at hal;injection hal with hal;subst hal;exact⟨rfl,ha⟩
          | false=>rw[ha]at hal;cases hal
        · cases hal
      obtain⟨rfl,ha⟩:=hx1
      simp only[Jx,Bool.and_eq_true]at ha
      obtain⟨⟨⟨a1,a2⟩,a3⟩,_⟩:=ha
      split at a1<;>first | (cases a1;done) | skip
      rename_i y hop
      have hsh':sh=(.p1 some,[y]):=by rw[hop]at hsh;injection hsh with hsh;exact hsh.symm
      subst hsh'
      have hy:FK vars c y=some x:=by
        simp only[Hb,km]at hxs
        obtain⟨a,h1,r,h2,h3⟩:=hxs
        injection h3 with h3
        injection h3 with h3 h4
        subst h3
        exact h1
      rw[hd]at a3
      have hpd:Br vars d=none:=by simpa using a3
      have hr':=hr.alias hy hpd
      obtain⟨R',t1,t2⟩:=ih _ rs items loc var s var' s' _ m hc hi hr' hm
      refine⟨R',.cons (sh:=.p1 some) (want:=true) (aS:=[Da loc var (CN c.cnt x)]) (v:=Da loc var (CN c.cnt x)) (R1:=R.put (some d) (Da loc var (CN c.cnt x))) (s1:=s) ho ?_ ?_ ?_,t2⟩
      · refine ⟨⟨[y], hsh, ?_⟩, ?_, by rw [hd], ?_, fun _ => rfl, fun e => by cases e⟩
        · simp[EA,LJ hr hy]
        · unfold Ic
          cases hg:o.guard with
          | none=>rfl
          | some g=>rw[hg]at a2;cases a2
        · intro d' e;rw[hd]at e;injection e with e;subst e;exact hlt
      · intro _ e;cases e
      · have:(draw && Sh.isRead (.p1 some))=false:=by cases draw<;>rfl
        rw[this]
        exact t1
    ·
      simp only[km]at hc
      obtain⟨g,hg,q,hq,hc⟩:=hc
      obtain⟨hpush,hc⟩:=AK hc
      simp only[km]at hc
      obtain⟨items',hc',hc⟩:=hc
      injection hc with hc
      subst hc
      obtain⟨hw,hgb⟩:=Xt (P:=P) hr hg
      have has:=MV hr hxs
      have hi:K8 F _ (EU F items') loc var s=some (var',s'):=hi
      have step:∃v s1,(BW loc var (HG c.cnt g)=true→Y2 F sh.1 (D3 loc var (xs.map (CN c.cnt))) s=some (v,s1))∧(BW loc var (HG c.cnt g)=false→v=BE∧s1=s) ∧
          Cz (bif BW loc var (HG c.cnt g)then ((match draw,sh.1.isEff with
            | true,true=>rs.filter fun(r:Nat×GN)=>!(b.getD i 0).testBit r.1
            | _,_=>[]).map fun(r:Nat×GN)=>IT q.2.cnt r.2)else []) q.1 (EU F items') loc var v s1=some (var',s'):=by
        unfold K8 at hi
        cases hwt:BW loc var (HG c.cnt g)with
        | true =>
          simp only[hwt]at hi
          unfold J6 at hi
          split at hi<;>first | (cases hi;done) | skip
          rename_i p hp
          exact⟨p.1,p.2,fun _=>aY hp,(fun e=>by cases e),hi⟩
        | false =>
          simp only[hwt]at hi
          exact⟨BE,s,(fun e=>by cases e),fun _=>⟨rfl,rfl⟩,hi⟩
      obtain⟨v,s1,st1,st2,st3⟩:=step
      have fin:∀ (loc1 var1:List AV),EQ vars q.2 loc1 var1 (R.put o.dst v)→FX loc1 var1 q.2.cnt rs m →
          ((draw && sh.1.isRead)=true→Ho loc1 var1 q.2.cnt (i,{ guard:=g,sh:=sh.1,xs,ans:=.loc c.cnt }) ⟨i,sh.1,D3 loc var (xs.map (CN c.cnt)),v,BW loc var (HG c.cnt g)⟩) →
          (∀d,o.dst=some d→d<nt) →
          ER s1 loc1 var1 (bif BW loc var (HG c.cnt g)then ((match draw,sh.1.isEff with
            | true,true=>rs.filter fun(r:Nat×GN)=>!(b.getD i 0).testBit r.1
            | _,_=>[]).map fun(r:Nat×GN)=>IT q.2.cnt r.2)else [])=true→EU F items' loc1 var1 s1=some (var',s') →
          ∃R',Trace P F ops nt b draw (i::l) m R s R' s'∧∃c' loc',EQ vars c' loc' var' R':=by
        intro loc1 var1 f1 f2 f3 f4 f5 f6
        have hm':FX loc1 var1 q.2.cnt (bif draw && sh.1.isRead then (i,{ guard:=g,sh:=sh.1,xs,ans:=.loc c.cnt })::rs else rs)
            (bif draw && sh.1.isRead then ⟨i,sh.1,D3 loc var (xs.map (CN c.cnt)),v,BW loc var (HG c.cnt g)⟩::m else m):=by
          cases hrd:(draw && sh.1.isRead)with
          | true=>exact .cons (f3 hrd) f2
          | false=>exact f2
        obtain⟨R',t1,t2⟩:=ih _ _ items' loc1 var1 s1 var' s' _ _ hc' f6 f1 hm'
        refine⟨R',.cons ho ⟨⟨sh.2,hsh,has⟩,hw,rfl,f4,st1,st2⟩ ?_ t1,t2⟩
        intro hd he hwt r hr1 hr2 hr3
        rw[hwt,hd,he]at f5
        simp only[cond_true]at f5
        exact Ul f2 f5 r hr1 (fun r' e=>by rw[e,hr2];rfl) hr3
      have newRd:∀ (loc1:List AV),loc1=v::loc→q.2.cnt=c.cnt+1→Ho loc1 var q.2.cnt (i,{ guard:=g,sh:=sh.1,xs,ans:=.loc c.cnt }) ⟨i,sh.1,D3 loc var (xs.map (CN c.cnt)),v,BW loc var (HG c.cnt g)⟩:=by
        intro loc1 e1 e2
        subst e1
        rw[e2]
        have hbx:∀x∈xs,M0 c.cnt x:=by
          have:∀ (l:List Operand) (xs:List CX),Hb vars c l=some xs→∀x∈xs,M0 c.cnt x:=by
            intro l
            induction l with
            | nil=>intro xs h;injection h with h;subst h;intro x hx;cases hx
            | cons a l ih =>
              intro xs h
              simp only[Hb,km]at h
              obtain⟨y,h1,r,h2,h3⟩:=h
              injection h3 with h3
              subst h3
              intro x hx
              cases hx with
              | head=>exact LH hr h1
              | tail _ hx=>exact ih r h2 x hx
          exact this _ _ hxs
        refine⟨rfl,rfl,Ip hbx,?_,?_,fun x hx=>(hbx x hx).succ,⟨c.cnt,rfl,lW _⟩,fun x b e=>(hgb x b e).succ⟩
        · simp only[CN,Da]
          rw[show c.cnt+1 - 1 - c.cnt=0 from by omega]
          rfl
        · cases g with
          | none=>rfl
          | some g =>
            obtain⟨x,b⟩:=g
            simp only[HG,BW]
            rw[Eo (hgb x b rfl)]
      have ifsome:∀ {α:Type} {c:Bool} {x:Option α} {y:α},(bif c then x else none)=some y→c=true∧x=some y:=by
        intro α c x y h
        cases c with
        | true=>exact⟨rfl,h⟩
        | false=>cases h
      split at hq
      · rename_i hd
        injection hq with hq
        subst hq
        simp only[Cz]at st3
        obtain⟨k1,k2⟩:=ifsome st3
        have hput:R.put o.dst v=R:=by rw[hd];rfl
        exact fin (v::loc) var (by rw[hput];exact hr.pushNone v) (hm.push v) (fun _=>newRd _ rfl rfl) (fun d e=>by rw[hd]at e;cases e) k1 k2
      · rename_i d hd
        obtain⟨hlt,hq⟩:=AK hq
        have hlt:d<nt:=by simpa[lP]using hlt
        have hdl:∀d',o.dst=some d'→d'<nt:=fun d' e=>by rw[hd]at e;injection e with e;subst e;exact hlt
        split at hq
        · rename_i j hj
          obtain⟨hal,hq⟩:=AK hq
          injection hq with hq
          subst hq
          simp only[Bool.and_eq_true]at hal
          simp only[Cz]at st3
          obtain⟨k1,k2⟩:=ifsome st3
          refine fin loc (Lj v var j) (by rw[hd];exact hr.set v hj hal.1) (hm.set v hal.2) ?_ hdl k1 k2
          intro hrd
          rw[hrd]at hpush
          cases hpush
        · rename_i hj
          injection hq with hq
          subst hq
          simp only[Cz]at st3
          obtain⟨k1,k2⟩:=ifsome st3
          exact fin (v::loc) var (by rw[hd];exact hr.push v hj) (hm.push v) (fun _=>newRd _ rfl rfl) hdl k1 k2
def OW(r:Option Nat):Fence:={ Fence.wide with round:=r }
def Eu(ρ:Bp)(R:B5)(tmps:Array Value):Prop:=∀ (t:Tmp)(v:AV),R t=some v→t<tmps.size∧AZ ρ v (tmps.getD t undef)
def Fu(P:Program)(ρ:Bp)(s:AG)(w:World)(v:AV)(s1:AG):Ending→World→Prop
 | .returned v',w'=>∃ρ',AZ ρ' v v'∧Bf P ρ' s1 w'∧Fr ρ s w ρ' s1 w'
 | _,_=>False
inductive De (P:Program) (ρ:Bp) (s:AG) (w:World) (v:AV) (s1:AG):Result Next→Prop
 | value {v':Value} {w':World} {ρ':Bp} (hv:AZ ρ' v v') (hi:Bf P ρ' s1 w') (hf:Fr ρ s w ρ' s1 w'):De P ρ s w v s1 (.ok (.value v') w')
 | skip {w':World} {ρ':Bp} (hv:AZ ρ' v undef) (hi:Bf P ρ' s1 w') (hf:Fr ρ s w ρ' s1 w'):De P ρ s w v s1 (.ok .skip w')
 | enter {f:FuncId} {args:Array Value} (h:CallsIn Fence.wide 0 P f args w (Fu P ρ s w v s1)):De P ρ s w v s1 (.ok (.enter f args) w)
 | round {l:Nat} {f:FuncId} {tmps:Array Value} {assign body:Code} (h:RoundIn Fence.wide 0 P l f tmps assign body w (Fu P ρ s w v s1)):De P ρ s w v s1 (.ok (.round l f tmps assign body) w)
def BX(ρ:Bp)(s:AG):Prop:=∀i,s.next≤i→ρ i=none∧s.heap.get i=none
structure Y5(P:Program)(F:Dy):Prop where
 call:∀ (ρ:Bp) (s:AG) (w:World) (f:FuncId) (aS:List AV) (v:AV) (s1:AG) (as':Array Value),F.call f aS s=some (v,s1)→Bf P ρ s w→BX ρ s→AS ρ aS as'.toList →
  De P ρ s w v s1 ((callFunc f as').run P w)
 round:∀ (ρ:Bp) (s:AG) (w:World) (l:Nat) (rb:RB) (aS:List AV) (v:AV) (s1:AG) (as':Array Value),F.round l aS s=some (v,s1)→Bf P ρ s w→BX ρ s→ρ l=some rb→AS ρ aS as'.toList →
  De P ρ s w v s1 ((Instr.yield rb.b as').run P w)
section
variable{P:Program}{ρ ρ1 ρ2:Bp}{s s1 s2:AG}{w w1 w2:World}{R:B5}{a:Act}{ops:Array Oper}
theorem Eu.mono{tmps:Array Value}(h:Eu ρ R tmps)(le:ρ.le ρ1):Eu ρ1 R tmps:=fun t v hv=>⟨(h t v hv).1,(h t v hv).2.mono le⟩
theorem O7(h:Eu ρ R a.tmps){o:Operand}{v:AV}(hv:O6 R o=some v):AZ ρ v (a.eval o):=by
 cases o with
 | tmp t=>exact(h t v hv).2
 | const c=>exact Bz ρ hv
 | global g=>cases hv
 | func f=>injection hv with hv;subst hv;exact .func .nil .nil
theorem JD(h:Eu ρ R a.tmps):∀ {xs:List Operand}{aS:List AV},EA R xs=some aS→AS ρ aS (xs.map a.eval)
 | [],aS,e=>by injection e with e;subst e;exact .nil
 | x::l,aS,e=>by
  simp only[EA,km]at e
  obtain⟨v,h1,r,h2,h3⟩:=e
  injection h3 with h3
  subst h3
  exact .cons (O7 h h1) (JD h h2)
theorem FS(a:Act)(d:Option Tmp)(v:Value):(a.put d v).tmps.size=a.tmps.size:=by cases d<;>simp[Act.put]
theorem LQ(a:Act)(d:Option Tmp)(v:Value):(a.put d v).defers=a.defers:=by cases d<;>rfl
theorem Eu.put   (h : Eu   ρ R a.tmps) {d : Option Tmp} {v : AV} {v' : Value} (hd : ∀ t, d = some t → t < a.tmps.size) (hv : AZ   ρ v v') : Eu   ρ (R.put d v) (a.put d v').tmps := by
  cases d with
  | none=>exact h
  | some d =>
    intro t u hu
    simp only[Act.put,Array.size_setIfInBounds]
    by_cases e:t=d
    · subst e
      simp only[B5.put,if_true,Option.some.injEq]at hu
      subst hu
      have:=hd t rfl
      exact⟨this,by simpa[Array.getD_eq_getD_getElem?,this]using hv⟩
    · simp only[B5.put,if_neg e]at hu
      have:=h t u hu
      refine⟨this.1,?_⟩
      have e2:(a.tmps.setIfInBounds d v').getD t undef=a.tmps.getD t undef:=by
        simp[Array.getD_eq_getD_getElem?,Array.getElem?_setIfInBounds_ne (Ne.symm e)]
      rw[e2]
      exact this.2
theorem Mp(h:Eu ρ R a.tmps){o:Oper}{want:Bool}(hw:Ic ops R o=some want):Region.wanted o (yielded ops a.tmps)=want:=by
  unfold Ic at hw
  unfold Region.wanted
  split at hw
  · rename_i hg;rw[hg];injection hw
  · rename_i j b hg
    rw[hg]
    simp only[km]at hw
    obtain⟨p,h1,d,h2,x,h3,h4⟩:=hw
    injection h4 with h4
    subst h4
    obtain⟨hlt,hv⟩:=h d x h3
    have hy:yielded ops a.tmps j=(match a.tmps.getD d undef with | .bool b=>some b | _=>none):=by
      unfold yielded
      rw[h1]
      simp only[Option.bind_some,h2]
      rw[Array.getElem?_eq_getElem hlt,show a.tmps.getD d undef=a.tmps[d]from by simp[Array.getD_eq_getD_getElem?,hlt]]
      cases a.tmps[d]<;>rfl
    simp only[hy]
    generalize a.tmps.getD d undef=y at hv
    cases hv<;>first | rfl | (rename_i c;cases c<;>cases b<;>rfl)
theorem XW{F:Dy}(hF:Y5 P F)(h:Bf P ρ s w)(hf:BX ρ s){f v:AV}{f':Value}{aS:List AV}{as':Array Value}(hc:GZ F f aS s=some (v,s1))(hv:AZ ρ f f')(ha:AS ρ aS as'.toList):
  De P ρ s w v s1 ((do let d ← Deferred.ofValue f' as';invoke d.target d.args:Sem Next).run P w):=by
 unfold GZ at hc
 split at hc<;>first | (cases hc;done) | skip
 ·cases hv with
  | func h1 h2 =>
   rename_i f x c x' c'
   have:=hF.call ρ s w f _ v s1 ((x'++as')++c') hc h hf (by simpa using h1.append (ha.append h2))
   simpa[Deferred.ofValue,invoke]using this
 ·cases hv with
  | yield h1 =>
   rename_i l rb
   have:=hF.round ρ s w l rb _ v s1 as' hc h hf h1 ha
   simpa[Deferred.ofValue,invoke]using this
theorem CM.next{sem:Sem Next}{v:AV}(h:CM P ρ s w sem v s1):De P ρ s w v s1 (sem.run P w):=by
 obtain⟨v',w',ρ',h1,h2,h3,h4⟩:=h
 rcases h1 with h1 | ⟨h1,e⟩
 ·rw[h1];exact .value h2 h3 h4
 ·subst e;rw[h1];exact .skip h2 h3 h4
theorem UO        {F : Dy}  (hF : Y5  P F) (h : Bf  P ρ s w) (hf : BX     ρ s) {o : Oper} {sh : Sh} {xs : List Operand} {aS : List AV} {v : AV} {ev : Operand → Value} (hev : ∀ f, ev (.func f) = .func (.func f) #[] #[]) (hsh : BK      P o.op = some (sh, xs)) (ha : AS    ρ aS (xs.map ev)) (hr : Y2  F sh aS s = some (v, s1)) :
    De P ρ s w v s1 ((execOp ev o).run P w):=by
  have plain:JH sh aS s=some (v,s1)→De P ρ s w v s1 ((execOp ev o).run P w):=fun hl=>(eq h (hf _ (kp _)).1 hsh ha hl).next
  have calls:(∀f,sh≠.call f)→sh≠.callv→De P ρ s w v s1 ((execOp ev o).run P w):=by
    intro h1 h2
    refine plain ?_
    cases sh<;>first | exact hr | exact absurd rfl (h1 _) | exact absurd rfl h2
  have isCall:(∃f,sh=.call f)∨sh=.callv→∃c,o.op=.call c:=by
    intro hc
    cases ho:o.op<;>rw[ho]at hsh<;>first | exact⟨_,rfl⟩ | (simp[BK]at hsh;done) | skip
    case binOp op t x y f =>
      simp only[BK]at hsh
      split at hsh<;>(injection hsh with hsh;injection hsh with e1 e2;subst e1;rcases hc with⟨_,hc⟩ | hc<;>cases hc)
    case makeMap t r =>
      cases r with
      | some _=>cases hsh
      | none=>injection hsh with hsh;injection hsh with e1 e2;subst e1;rcases hc with⟨_,hc⟩ | hc<;>cases hc
    case makeFunc fn first captured =>
      cases fn with
      | func f=>injection hsh with hsh;injection hsh with e1 e2;subst e1;rcases hc with⟨_,hc⟩ | hc<;>cases hc
      | _=>cases hsh
    all_goals (injection hsh with hsh;injection hsh with e1 e2;subst e1;rcases hc with⟨_,hc⟩ | hc<;>cases hc)
  by_cases hc:(∃f,sh=.call f)∨sh=.callv
  · obtain⟨⟨callee,args,argTypes⟩,ho⟩:=isCall hc
    rw[ho]at hsh
    have hx:∀g,callee=.value g→execOp ev o=(do let d ← Deferred.ofValue (ev g) (args.map ev);invoke d.target d.args):=by
      intro g hg
      subst hg
      simp only[execOp,ho,resolve]
    have notB:∀b,callee≠.builtin b:=by
      intro b e
      subst e
      simp only[BK]at hsh
      split at hsh<;>first | (cases hsh;done) | skip
      all_goals first
        | (injection hsh with hsh;injection hsh with e1 e2;subst e1;rcases hc with⟨_,hc⟩ | hc<;>cases hc;done)
        | (split at hsh<;>first | (cases hsh;done) | (injection hsh with hsh;injection hsh with e1 e2;subst e1;rcases hc with⟨_,hc⟩ | hc<;>cases hc;done))
    simp only[BK]at hsh
    split at hsh
    · rename_i f
      injection hsh with hsh;injection hsh with e1 e2;subst e1;subst e2
      rw[hx _ rfl,hev]
      have:=hF.call ρ s w f aS v s1 (args.map ev) hr h hf (by simpa using ha)
      simpa[Deferred.ofValue,invoke]using this
    · rename_i x _
      injection hsh with hsh;injection hsh with e1 e2;subst e1;subst e2
      rw[hx _ rfl]
      cases ha with
      | cons h1 h2=>exact XW hF h hf hr h1 (by simpa using h2)
    · cases hsh
    · exact absurd rfl (notB _)
  · exact calls (fun f e=>hc (.inl ⟨f,e⟩)) (fun e=>hc (.inr e))
end
section
variable{P:Program}{ρ ρ1 ρ2:Bp}{s s1 s2:AG}{w w1 w2:World}{R:B5}{a:Act}{ops:Array Oper}{rnd:Option Nat}{Q:Exit→Act→World→Prop}
theorem JU{n:Nat}{f:FuncId}{args:Array Value}{Rr:Ending→World→Prop}(h:CallsIn Fence.wide n P f args w Rr):CallsIn (OW rnd) n P f args w Rr:=h
theorem O9{n l:Nat}{f:FuncId}{tmps:Array Value}{assign body:Code}{Rr:Ending→World→Prop}(h:RoundIn Fence.wide n P l f tmps assign body w Rr):RoundIn (OW rnd) n P l f tmps assign body w Rr:=h
theorem BX.step(h:BX ρ s)(k:Fr ρ s w ρ1 s1 w1):BX ρ1 s1:=fun i hi =>
 ⟨k.fresh i (h i (lF k.next hi)).1 (.inr hi),(k.unborn i (h i (lF k.next hi)).1 (.inr hi)).trans (h i (lF k.next hi)).2⟩
theorem MT{o:Oper}{v:AV}{K:Act→World→Prop}{r:Result Next}(h:De P ρ s w v s1 r)
    (hk:∀v' w' ρ',AZ ρ' v v'→Bf P ρ' s1 w'→Fr ρ s w ρ' s1 w'→K (a.put o.dst v') w'):o.uponIn (OW rnd) 0 P a K Q r:=by
  cases h with
  | value hv hi hf=>exact hk _ _ _ hv hi hf
  | skip hv hi hf=>exact hk _ _ _ hv hi hf
  | enter h =>
    refine⟨fun e=>(by cases e),JU (CallsIn.mono h ?_)⟩
    intro e w' he
    cases e with
    | returned v'=>obtain⟨ρ',h1,h2,h3⟩:=he;exact hk _ _ _ h1 h2 h3
    | panicked c=>exact he.elim
    | outgrown=>exact he.elim
  | round h =>
    refine⟨fun e=>(by cases e),O9 (RoundIn.mono h ?_)⟩
    intro e w' he
    cases e with
    | returned v'=>obtain⟨ρ',h1,h2,h3⟩:=he;exact hk _ _ _ h1 h2 h3
    | panicked c=>exact he.elim
    | outgrown=>exact he.elim
theorem MU{o:Oper}{x:Sh×List Operand}(h:BK P o.op=some x):∀c,o.op≠.defer c:=by
 intro c e
 rw[e]at h
 simp[BK]at h
theorem TE{F:Dy}(hF:Y5 P F)(h:Bf P ρ s w)(hf:BX ρ s){nt i:Nat}{o:Oper}{sh:Sh}{want:Bool}{aS:List AV}{v:AV}{R1:B5}{K:Act→World→Prop}(ho:ops[i]? = some o)
  (hs:KJ P F ops nt R s o sh want aS v R1 s1) (hr:Eu ρ R a.tmps) (hnt:nt≤a.tmps.size)
  (hk:∀v' w' ρ',AZ ρ' v v'→Bf P ρ' s1 w'→Fr ρ s w ρ' s1 w'→K (a.put o.dst v') w'):wpOpIn (OW rnd) 0 P ops Q i K a w:=by
 unfold wpOpIn
 rw[ho]
 simp only
 obtain⟨xs,hsh,has⟩:=hs.shape
 rw[Mp hr hs.wants]
 cases want with
 | true =>
  simp only[if_true]
  refine⟨fun _ _=>trivial,?_⟩
  rw[Oper.semAt_eq _ _ _ (MU hsh)]
  exact MT (UO hF h hf (fun _=>rfl) hsh (JD hr has) (hs.yes rfl)) hk
 | false =>
  simp only[Bool.false_eq_true,if_false]
  refine⟨fun _ _=>trivial,?_⟩
  obtain⟨rfl,rfl⟩:=hs.no rfl
  exact hk undef w ρ (DY ρ) h (Fr.refl _ _ _)
theorem UR        {F : Dy}  (hF : Y5  P F) {nt : Nat} {b : Array Nat} {draw : Bool} {R2 : B5}   :
    ∀ {l:List Nat} {m:List Ph} {R:B5} {s:AG} {ρ:Bp} {a:Act} {w:World},Trace P F ops nt b draw l m R s R2 s2→Bf P ρ s w→BX ρ s→Eu ρ R a.tmps→nt≤a.tmps.size →
      (∀a' w' ρ',Bf P ρ' s2 w'→BX ρ' s2→Fr ρ s w ρ' s2 w'→Eu ρ' R2 a'.tmps→a'.tmps.size=a.tmps.size→a'.defers=a.defers→Q .normal a' w') →
      wpOpsIn (OW rnd) 0 P ops Q l a w:=by
  intro l
  induction l with
  | nil =>
    intro m R s ρ a w ht h hf hr hnt hq
    cases ht
    exact hq a w ρ h hf (Fr.refl _ _ _) hr rfl rfl
  | cons i l ih =>
    intro m R s ρ a w ht h hf hr hnt hq
    cases ht with
    | cons ho hs ag hl =>
      rename_i R1 s1 o sh want aS v
      rw[wpOpsIn_cons]
      refine TE hF h hf ho hs hr hnt ?_
      intro v' w' ρ' h1 h2 h3
      refine ih hl h2 (hf.step h3) ?_ (by rw[FS];exact hnt) ?_
      · rw[hs.put]
        exact(hr.mono h3.le).put (fun t e=>lR (hs.lt t e) hnt) h1
      · intro a' w'' ρ'' g1 g2 g3 g4 g5 g6
        exact hq a' w'' ρ'' g1 g2 (h3.trans g3) g4 (by rw[g5,FS]) (by rw[g6,LQ])
end
def Ef(acc:Array Nat)(o:Oper):Nat:=o.after.foldl (fun s e=>if Region.binds .any e then s ||| 2 ^ e.on ||| acc.getD e.on 0 else s) 0
theorem Mx           (acc : Array Nat) (o : Oper) (k : Nat) (h : (Ef      acc o).testBit k = true) : ∃ e ∈ o.after, Region.binds .any e = true ∧ (k = e.on ∨ (acc.getD e.on 0).testBit k = true) := by
  unfold Ef at h
  rw[← Array.foldl_toList]at h
  have key:∀ (l:List Edge) (s:Nat),(l.foldl (fun s e=>if Region.binds .any e then s ||| 2 ^ e.on ||| acc.getD e.on 0 else s) s).testBit k=true →
      s.testBit k=true∨∃e∈l,Region.binds .any e=true∧(k=e.on∨(acc.getD e.on 0).testBit k=true):=by
    intro l
    induction l with
    | nil=>intro s h;exact .inl h
    | cons e l ih =>
      intro s h
      simp only[ll]at h
      rcases ih _ h with h | ⟨e',he',h1,h2⟩
      · by_cases hb : Region.binds .any e = true
        · rw[if_pos hb]at h
          simp only[Nat.testBit_or,Bool.or_eq_true,Nat.testBit_two_pow]at h
          rcases h with(h | h) | h
          · exact .inl h
          · exact .inr ⟨e,kx,hb,.inl (by simpa using (of_decide_eq_true h).symm)⟩
          · exact .inr ⟨e,kx,hb,.inr h⟩
        · rw[if_neg hb]at h
          exact .inl h
      · exact .inr ⟨e',kz _ he',h1,h2⟩
  rcases key _ _ h with h | ⟨e,he,h1,h2⟩
  · simp at h
  · exact⟨e,Array.mem_toList_iff.1 he,h1,h2⟩
theorem N2          (ops : Array Oper) : ∀ i k, ((Region.before ops).getD i 0).testBit k = true → ∃ o, ops[i]? = some o ∧ ∃ e ∈ o.after, Region.binds .any e = true ∧ (k = e.on ∨ ((Region.before ops).getD e.on 0).testBit k = true) := by
  have key:∀ (l pre:List Oper) (acc:Array Nat),acc.size=pre.length →
      (∀i k,(acc.getD i 0).testBit k=true→∃o,pre[i]? = some o∧∃e∈o.after,Region.binds .any e=true∧(k=e.on∨(acc.getD e.on 0).testBit k=true)) →
      ∀i k,((l.foldl (fun acc o=>acc.push (Ef acc o)) acc).getD i 0).testBit k=true→∃o,(pre++l)[i]? = some o∧∃e∈o.after,Region.binds .any e=true∧(k=e.on∨((l.foldl (fun acc o=>acc.push (Ef acc o)) acc).getD e.on 0).testBit k=true):=by
    intro l
    induction l with
    | nil=>intro pre acc hs h;simpa using h
    | cons o l ih =>
      intro pre acc hs h
      simp only[ll]
      have:=ih (pre++[o]) (acc.push (Ef acc o)) (by simp[hs]) ?_
      · simpa using this
      · have up:∀j k,(acc.getD j 0).testBit k=true→((acc.push (Ef acc o)).getD j 0).testBit k=true:=by
          intro j k hj
          rcases ks j acc.size with hlt | hge
          · simpa[Array.getD_eq_getD_getElem?,Array.getElem?_push,Nat.ne_of_lt hlt]using hj
          · simp[Array.getD_eq_getD_getElem?,Array.getElem?_eq_none hge]at hj
        intro i k hi
        rcases mM i acc.size with hlt | heq | hgt
        · have hi':(acc.getD i 0).testBit k=true:=by
            simpa[Array.getD_eq_getD_getElem?,Array.getElem?_push,Nat.ne_of_lt hlt]using hi
          obtain⟨o',h1,e,h2,h3,h4⟩:=h i k hi'
          refine⟨o',?_,e,h2,h3,h4.imp id (up _ _)⟩
          rw[lG (by omega)]
          exact h1
        · subst heq
          have hi':(Ef acc o).testBit k=true:=by
            simpa[Array.getD_eq_getD_getElem?]using hi
          obtain⟨e,h2,h3,h4⟩:=Mx acc o k hi'
          refine⟨o,?_,e,h2,h3,h4.imp id (up _ _)⟩
          rw[hs]
          simp
        · have:(acc.push (Ef acc o))[i]? = none:=Array.getElem?_eq_none (by simp;omega)
          simp[Array.getD_eq_getD_getElem?,this]at hi
  intro i k h
  have h0:Region.before ops=ops.toList.foldl (fun acc o=>acc.push (Ef acc o)) #[]:=by
    unfold Region.before
    rw[← Array.foldl_toList]
    rfl
  rw[h0]at h ⊢
  obtain⟨o,h1,h2⟩:=key ops.toList [] #[] rfl (by intro i k h;simp at h) i k h
  exact⟨o,by simpa using h1,h2⟩
theorem Tx{P:Program}{o:Oper}{sh:Sh}{xs:List Operand}(h:BK P o.op=some (sh,xs)){t:Tmp}(ht:Operand.tmp t∈xs):t∈F7 P o:=by
 unfold F7
 rw[h]
 refine lU _ (List.mem_filterMap.2 ⟨.tmp t,ht,rfl⟩)
structure Ig(P:Program)(ops:Array Oper)(b:Array Nat)(π:List Nat):Prop where
 len:π.length=ops.size
 lt:∀p i:Nat,π[p]? = some i→i<ops.size
 inj:∀p q i:Nat,π[p]? = some i→π[q]? = some i→p=q
 edge:∀ (p i:Nat) (o:Oper),π[p]? = some i→ops[i]? = some o→∀e∈o.after,Region.binds .any e=true→∃q,q<p∧π[q]? = some e.on
 eff:∀ (p q i j:Nat) (o:Oper),π[p]? = some i→π[q]? = some j→q<p→ops[j]? = some o→OU P o=true→(b.getD i 0).testBit j=true
 guard:∀ (p i:Nat) (o:Oper) (j:Nat) (w:Bool),π[p]? = some i→ops[i]? = some o→o.guard=some (j,w)→(b.getD i 0).testBit j=true
 wdst:∀ (p q i j:Nat) (o u:Oper) (d:Tmp),π[p]? = some i→π[q]? = some j→q<p→ops[i]? = some o→ops[j]? = some u→o.dst=some d→u.dst≠some d∧(d∈F7 P u→(b.getD i 0).testBit j=true)
 rdst:∀ (p q i j:Nat) (o u:Oper) (d:Tmp),π[p]? = some i→π[q]? = some j→q<p→ops[i]? = some o→ops[j]? = some u→u.dst=some d→d∈F7 P o→(b.getD i 0).testBit j=true
theorem LN{P:Program}{ops:Array Oper}{b:Array Nat}:∀ {l bef:List Nat},E9 P ops b bef l=true →
  (bef++l).length=ops.size∧∀p i:Nat,l[p]? = some i→Np P ops b (bef++l.take p) i=true:=by
 intro l
 induction l with
 | nil=>intro bef h;exact⟨by simpa using Aq h,fun p i e=>by simp at e⟩
 | cons a l ih =>
  intro bef h
  simp only[E9,Bool.and_eq_true]at h
  obtain⟨h1,h2⟩:=ih h.2
  refine⟨by simpa using h1,?_⟩
  intro p i e
  cases p with
  | zero=>simp at e;subst e;simpa using h.1
  | succ p=>simpa using h2 p i (by simpa using e)
theorem D4{ops:Array Oper}{i:Nat}{o:Oper}(h:ops[i]? = some o):ops.getD i default=o:=by simp[Array.getD_eq_getD_getElem?,h]
theorem Fl{l:List Nat}{p j:Nat}:j∈l.take p↔∃q,q<p∧l[q]? = some j:=by
  rw[List.mem_iff_getElem?]
  constructor
  · rintro ⟨q, hq⟩
    rw[mY]at hq
    split at hq
    · exact⟨q,by assumption,hq⟩
    · cases hq
  · rintro⟨q,hlt,hq⟩
    exact⟨q,by rw[mY,if_pos hlt];exact hq⟩
theorem JC{P:Program}{ops:Array Oper}{b:Array Nat}{π:List Nat}(h:E9 P ops b [] π=true):Ig P ops b π:=by
 obtain⟨hlen,hst⟩:=LN h
 simp only[lZ]at hlen hst
 have parts:=fun(p i:Nat) (e:π[p]? = some i)=>by
  have:=hst p i e
  unfold Np at this
  simpa only[Bool.and_eq_true,Bool.not_eq_true',Array.all_eq_true_iff_forall_mem,List.all_eq_true,Bool.or_eq_true]using this
 refine⟨hlen,?_,?_,?_,?_,?_,?_,?_⟩
 ·intro p i e
  have:=(parts p i e).1.1.1.1.1.1
  simpa[lP]using this
 ·have one:∀p q i:Nat,π[p]? = some i→π[q]? = some i→q<p→False:=by
   intro p q i e1 e2 hlt
   have:=(parts p i e1).1.1.1.1.1.2
   have hm:i∈π.take p:=Fl.2 ⟨q,hlt,e2⟩
   rw[List.contains_iff_mem.2 hm]at this
   cases this
  intro p q i e1 e2
  rcases mM p q with h' | h' | h'
  ·exact(one q p i e2 e1 h').elim
  ·exact h'
  ·exact(one p q i e1 e2 h').elim
 ·intro p i o e ho ed hed hb
  have:=(parts p i e).1.1.1.2
  rw[D4 ho]at this
  rcases this ed hed with h' | h'
  ·rw[hb]at h';cases h'
  ·exact Fl.1 (List.contains_iff_mem.1 h')
 ·intro p q i j o e1 e2 hlt ho he
  have:=(parts p i e1).1.1.2 j (Fl.2 ⟨q,hlt,e2⟩)
  rw[D4 ho,he]at this
  exact this.resolve_left (by simp)
 ·intro p i o j w e ho hg
  have:=(parts p i e).1.2
  rw[D4 ho]at this
  exact this j (by simp[Sy,hg])
 ·intro p q i j o u d e1 e2 hlt ho hu hd
  have:=((parts p i e1).2 j (Fl.2 ⟨q,hlt,e2⟩)).1
  rw[D4 ho,D4 hu,hd]at this
  simp only[Bool.and_eq_true,Bool.or_eq_true,Bool.not_eq_true',bne_iff_ne,ne_eq]at this
  refine⟨this.1,fun hm=>?_⟩
  rcases this.2 with h' | h'
  ·rw[List.contains_iff_mem.2 hm]at h';cases h'
  ·exact h'
 ·intro p q i j o u d e1 e2 hlt ho hu hd hm
  have:=((parts p i e1).2 j (Fl.2 ⟨q,hlt,e2⟩)).2
  rw[D4 ho,D4 hu,hd]at this
  simp only[Bool.or_eq_true,Bool.not_eq_true']at this
  rcases this with h' | h'
  ·rw[List.contains_iff_mem.2 hm]at h';cases h'
  ·exact h'
theorem Oy       : ∀ (m : Nat) (l : List Nat), l.Nodup → (∀ x ∈ l, x < m) → l.length ≤ m := by
  intro m
  induction m with
  | zero =>
    intro l _ h
    cases l with
    | nil=>simp
    | cons a l=>exact absurd (h a kx) (by omega)
  | succ m ih =>
    intro l hn h
    by_cases hm:m∈l
    · have h1:=ih (l.erase m) (hn.erase m) (fun x hx=>by
        have hx:=(hn.mem_erase_iff).1 hx
        have:=h x hx.2
        have:=hx.1
        omega)
      rw[List.length_erase_of_mem hm]at h1
      omega
    · have:=ih l hn (fun x hx=>by
        have:=h x hx
        have:x≠m:=fun e=>hm (e▸hx)
        omega)
      omega
theorem Ig.onto     {P : Program} {ops : Array Oper} {b : Array Nat} {π : List Nat} (h : Ig     P ops b π) {i : Nat} (hi : i < ops.size) : ∃ p : Nat, π[p]? = some i := by
  have hn:π.Nodup:=by
    refine List.pairwise_iff_getElem.2 ?_
    intro p q hp hq hpq e
    have:=h.inj p q (π[q]) (by rw[ky hp,e]) (ky hq)
    omega
  by_cases hm:i∈π
  · exact List.mem_iff_getElem?.1 hm
  · have hn' : (i :: π).Nodup := mV.2              ⟨hm, hn⟩
    have:=Oy ops.size (i::π) hn' (fun x hx=>by
      rcases lM.1 hx with rfl | hx
      · exact hi
      · obtain⟨p,hp⟩:=List.mem_iff_getElem?.1 hx
        exact h.lt p x hp)
    simp only[lO,h.len]at this
    omega
structure L0 where
 R:Nat→B5
 st:Nat→AG
 o:Nat→Oper
 sh:Nat→Sh
 want:Nat→Bool
 aS:Nat→List AV
 v:Nat→AV
structure PT(P:Program)(F:Dy)(ops:Array Oper)(nt:Nat)(b:Array Nat)(π:List Nat)(D:L0):Prop where
 op:∀p i:Nat,π[p]? = some i→ops[i]? = some (D.o p)
 step:∀p,p<π.length→KJ P F ops nt (D.R p) (D.st p) (D.o p) (D.sh p) (D.want p) (D.aS p) (D.v p) (D.R (p+1)) (D.st (p+1))
 ag:∀p q i j:Nat,π[p]? = some i→π[q]? = some j→q<p→(D.sh p).isEff=true→D.want p=true→(D.sh q).isRead=true→(b.getD i 0).testBit j=false→D.want q=true →
  Eb (D.sh q) (D.aS q) (D.st (p+1))=some (D.v q)
def HO{α:Type}(a:α)(f:Nat→α):Nat→α
 | 0=>a
 | p+1=>f p
theorem Yv       {P : Program} {F : Dy}  {ops : Array Oper} {nt : Nat} {b : Array Nat} {l : List Nat} {m : List Ph}  {R R2 : B5}   {s s2 : AG}  (h : Trace P F ops nt b true l m R s R2 s2) :
    ∃D:L0,PT P F ops nt b l D∧D.R 0=R∧D.st 0=s∧D.R l.length=R2∧D.st l.length=s2 ∧
      (∀p i:Nat,l[p]? = some i→(D.sh p).isEff=true→D.want p=true→∀r∈m,(b.getD i 0).testBit r.idx=false→r.want=true→Eb r.sh r.aS (D.st (p+1))=some r.v):=by
  induction h with
  | nil =>
    rename_i m R s
    exact⟨⟨fun _=>R,fun _=>s,fun _=>default,fun _=>.callv,fun _=>false,fun _=>[],fun _=>BE⟩,
      ⟨by intro p i h;simp at h,by intro p h;simp at h,by intro p q i j h;simp at h⟩,rfl,rfl,rfl,rfl,by intro p i h;simp at h⟩
  | cons ho hs ag hl ih =>
    rename_i i l m R R1 R2 s s1 s2 o sh want aS v
    obtain⟨D,h1,h2,h3,h4,h5,h6⟩:=ih
    refine⟨⟨HO R D.R,HO s D.st,HO o D.o,HO sh D.sh,HO want D.want,HO aS D.aS,HO v D.v⟩,⟨?_,?_,?_⟩,rfl,rfl,h4,h5,?_⟩
    · intro p j hp
      cases p with
      | zero=>simp at hp;subst hp;exact ho
      | succ p=>exact h1.op p j (by simpa using hp)
    · intro p hp
      cases p with
      | zero=>simp only[HO,h2,h3];exact hs
      | succ p=>exact h1.step p (by simpa using hp)
    · intro p q j k hp hq hlt he hw hr ht hwq
      cases p with
      | zero=>omega
      | succ p =>
        cases q with
        | zero =>
          simp at hq
          subst hq
          simp only[HO]at hr hwq he hw ⊢
          refine h6 p j (by simpa using hp) he hw ⟨i,sh,aS,v,want⟩ ?_ ht hwq
          rw[hr]
          exact kx
        | succ q=>exact h1.ag p q j k (by simpa using hp) (by simpa using hq) (by omega) he hw hr ht hwq
    · intro p j hp he hw r hr ht hwr
      cases p with
      | zero =>
        simp at hp
        subst hp
        simp only[HO,h3]at he hw ⊢
        exact ag rfl he hw r hr ht hwr
      | succ p =>
        refine h6 p j (by simpa using hp) he hw r ?_ ht hwr
        cases hb:(true && sh.isRead)with
        | true=>exact kz _ hr
        | false=>exact hr
theorem Jg{sh:Sh}{aS:List AV}{s:AG}{v:AV}(h:Eb sh aS s=some v):JH sh aS s=some (v,s):=by
  cases sh with
  | r1 f =>
    cases aS with
    | nil=>cases h
    | cons a l =>
      cases l with
      | nil=>have h:f s a=some v:=h;simp[JH,h,Dx]
      | cons=>cases h
  | r f=>have h:f s aS=some v:=h;simp[JH,h,Dx]
  | _=>cases h
theorem Je          {P : Program} {R : B5}   {o : Op} {sh : Sh} {xs : List Operand} {aS : List AV} {s s1 : AG}  {v : AV} (hsh : BK      P o = some (sh, xs)) (he : EA     R xs = some aS) (hr : sh.isRead = true) (h : JH  sh aS s = some (v, s1)) :
    Eb sh aS s=some v∧s1=s:=by
  have one:∀x:Operand,xs=[x]→∃a,aS=[a]:=by
    intro x e
    subst e
    simp only[EA,km]at he
    obtain⟨a,_,r,hr,he⟩:=he
    injection hr with hr
    injection he with he
    subst hr
    exact⟨a,he.symm⟩
  cases sh with
  | r1 f =>
    have:∃x,xs=[x]:=by
      cases o<;>first | (simp[BK]at hsh;done) | skip
      case binOp op t x y f =>
        simp only[BK]at hsh
        split at hsh<;>(injection hsh with hsh;injection hsh with h1 h2;cases h1)
      case load t a=>injection hsh with hsh;injection hsh with h1 h2;exact⟨_,h2.symm⟩
      case convert src dst x=>injection hsh with hsh;injection hsh with h1 h2;exact⟨_,h2.symm⟩
      case makeMap t r=>cases r with
        | some _=>cases hsh
        | none=>injection hsh with hsh;injection hsh with h1 h2;cases h1
      case makeFunc fn first captured=>cases fn<;>first | (cases hsh;done) | (injection hsh with hsh;injection hsh with h1 h2;cases h1)
      case call c =>
        obtain⟨callee,args,argTypes⟩:=c
        simp only[BK]at hsh
        split at hsh<;>first | (cases hsh;done) | skip
        split at hsh<;>first | (cases hsh;done) | skip
        all_goals (split at hsh<;>cases hsh)
    obtain⟨x,hx⟩:=this
    obtain⟨a,rfl⟩:=one x hx
    exact SC h
  | r f=>exact Mf h
  | _=>cases hr
section
variable{P:Program}{ρ ρ1 ρ2:Bp}{s s1 s2:AG}{w w1 w2:World}{R:B5}{a:Act}{ops:Array Oper}{rnd:Option Nat}{Q:Exit→Act→World→Prop}
theorem LX{F:Dy}(h:Bf P ρ s w)(hf:ρ s.next=none){nt i:Nat}{o:Oper}{sh:Sh}{want:Bool}{aS:List AV}{v:AV}{R1:B5}{K:Act→World→Prop}(ho:ops[i]? = some o)
  (hs:KJ P F ops nt R s o sh want aS v R1 s1) (hne:sh.isEff=false) (hr:Eu ρ R a.tmps) (hnt:nt≤a.tmps.size)
  (hk:∀v' w' ρ',AZ ρ' v v'→Bf P ρ' s1 w'→Fr ρ s w ρ' s1 w'→K (a.put o.dst v') w'):wpOpIn (OW rnd) 0 P ops Q i K a w:=by
 unfold wpOpIn
 rw[ho]
 simp only
 obtain⟨xs,hsh,has⟩:=hs.shape
 rw[Mp hr hs.wants]
 cases want with
 | true =>
  simp only[if_true]
  refine⟨fun _ _=>trivial,?_⟩
  rw[Oper.semAt_eq _ _ _ (MU hsh)]
  have hl:JH sh aS s=some (v,s1):=by
   have:=hs.yes rfl
   cases sh<;>first | exact this | cases hne
  exact MT (eq h hf hsh (JD hr has) hl).next hk
 | false =>
  simp only[Bool.false_eq_true,if_false]
  refine⟨fun _ _=>trivial,?_⟩
  obtain⟨rfl,rfl⟩:=hs.no rfl
  exact hk undef w ρ (DY ρ) h (Fr.refl _ _ _)
theorem Bf.same(h:Bf P ρ s w)(e:∀i rb,ρ i=some rb→s1.heap.get i=s.heap.get i):Bf P ρ s1 w:=
  ⟨fun i o rb hi hr=>h.obj i o rb (by rw[← e i rb hr];exact hi) hr,h.lt,
   fun i j oi oj ri rj hne hi hj hri hrj=>h.sep i j oi oj ri rj hne (by rw[← e i ri hri];exact hi) (by rw[← e j rj hrj];exact hj) hri hrj⟩
theorem GS.same{b:Nat}(e:∀i rb,ρ i=some rb→s1.heap.get i=s.heap.get i)(h:GS ρ s1 b):GS ρ s b:=by
 obtain⟨i,o,rb,h1,h2,h3,h4⟩:=h
 exact⟨i,o,rb,by rw[← e i rb h3];exact h1,h2,h3,h4⟩
end
def Dn(π:List Nat)(listed:Array Bool)(p:Nat):Prop:=∃i:Nat,π[p]? = some i∧listed[i]? = some true
def Sh.isMk:Sh→Bool
 | .mk _=>true
 | _=>false
theorem R8{P:Program}{ops:Array Oper}{b:Array Nat}{π:List Nat}(h:E9 P ops b [] π=true):∀p i j:Nat,π[p]? = some i→j<ops.size→(b.getD i 0).testBit j=true→∃q:Nat,q<p∧π[q]? = some j:=by
 intro p i j hp hj ht
 have:=(LN h).2 p i hp
 unfold Np at this
 simp only[Bool.and_eq_true,List.all_eq_true,Bool.or_eq_true,Bool.not_eq_true']at this
 have:=this.1.1.1.1.2 j (List.mem_range.2 hj)
 rcases this with h' | h'
 ·rw[ht]at h';cases h'
 ·simpa using Fl.1 (List.contains_iff_mem.1 h')
theorem PT.regs_at {P : Program} {F : Dy}  {ops : Array Oper} {nt : Nat} {b : Array Nat} {π : List Nat} {D : L0}    (ht : PT P F ops nt b π D) : ∀ p, p ≤ π.length → ∀ t x, D.R p t = some x →
    (∃q,q<p∧(D.o q).dst=some t∧x=D.v q)∨((∀q,q<p→(D.o q).dst≠some t)∧D.R 0 t=some x):=by
  intro p
  induction p with
  | zero=>intro _ t x h;exact .inr ⟨fun q hq=>by omega,h⟩
  | succ p ih =>
    intro hp t x h
    rw[(ht.step p (by omega)).put]at h
    have old:D.R p t=some x→(D.o p).dst≠some t→(∃q,q<p+1∧(D.o q).dst=some t∧x=D.v q)∨((∀q,q<p+1→(D.o q).dst≠some t)∧D.R 0 t=some x):=by
      intro h hne
      rcases ih (by omega) t x h with⟨q,h1,h2,h3⟩ | ⟨h1,h2⟩
      · exact .inl ⟨q,by omega,h2,h3⟩
      · refine .inr ⟨fun q hq => ?_, h2⟩
        rcases ks q p with h' | h'
        · exact h1 q h'
        · have:q=p:=by omega
          subst this;exact hne
    cases hd:(D.o p).dst with
    | none=>rw[hd]at h;exact old h (by rw[hd];simp)
    | some d =>
      rw[hd]at h
      by_cases e:t=d
      · subst e
        simp only[B5.put,if_true,Option.some.injEq]at h
        exact .inl ⟨p,by omega,hd,h.symm⟩
      · simp only[B5.put,if_neg e]at h
        exact old h (by rw[hd];intro e';injection e' with e';exact e e'.symm)
theorem IS{R R':B5}:∀ {xs:List Operand},(∀t,Operand.tmp t∈xs→R' t=R t)→EA R' xs=EA R xs
 | [],_=>rfl
 | x::l,h=>by
  have h1:O6 R' x=O6 R x:=by
   cases x with
   | tmp t=>exact h t kx
   | _=>rfl
  simp only[EA,h1,IS fun t ht=>h t (kz _ ht)]
structure DJ(P:Program)(ops:Array Oper)(b:Array Nat)(π:List Nat)(D:L0)(ρ0:Bp)(w0:World)(a0:Act)(listed:Array Bool)(k:Nat)(ρ:Bp)(a:Act)(w:World):Prop where
 lsz:listed.size=ops.size
 kle:k≤π.length
 dlt:∀p,Dn π listed p→p<k
 eff:∀p,p<k→(D.sh p).isEff=true→Dn π listed p
 anc:∀p i:Nat,π[p]? = some i→Dn π listed p→∀j:Nat,j<ops.size→(b.getD i 0).testBit j=true→listed[j]? = some true
 inv:Bf P ρ (D.st k) w
 fresh:BX ρ (D.st k)
 fr:Fr ρ0 (D.st 0) w0 ρ (D.st k) w
 unb:∀p,p<k→¬ Dn π listed p→D.want p=true→∀f,D.sh p=.mk f→∃ob m,f (D.aS p)=some (ob,m)∧D.v p=m.val (D.st p).next∧ρ (D.st p).next=none ∧
  (D.st k).heap.get (D.st p).next=some ob∧(D.st 0).next≤(D.st p).next∧(D.st p).next<(D.st k).next
 dis:∀p q,p<q→q<k→¬ Dn π listed p→¬ Dn π listed q→D.want p=true→D.want q=true→(D.sh p).isMk=true→(D.sh q).isMk=true→(D.st p).next≠(D.st q).next
 rds:∀q,q<k→¬ Dn π listed q→D.want q=true→(D.sh q).isRead=true→Eb (D.sh q) (D.aS q) (D.st k)=some (D.v q)
 sz:a.tmps.size=a0.tmps.size
 dfr:a.defers=a0.defers
 rw:∀p,Dn π listed p→∀d,(D.o p).dst=some d→AZ ρ (D.v p) (a.tmps.getD d undef)
 ri:∀t,(∀p,Dn π listed p→(D.o p).dst≠some t)→∀x,D.R 0 t=some x→AZ ρ x (a.tmps.getD t undef)
section
variable{P:Program}{F:Dy}{ops:Array Oper}{nt:Nat}{b:Array Nat}{π:List Nat}{D:L0}{ρ0 ρ ρ1:Bp}{w0 w w1:World}{a0 a:Act}{listed:Array Bool}{k:Nat}{rnd:Option Nat}{Q:Exit→Act→World→Prop}
theorem DJ.adv1 (ht : PT P F ops nt b π D) (J : DJ P ops b π D ρ0 w0 a0 listed k ρ a w) (hk : k < π.length) (hne : (D.sh k).isEff = false) : DJ P ops b π D ρ0 w0 a0 listed (k + 1) ρ a w := by
  have hs:=ht.step k hk
  obtain⟨xs,hsh,has⟩:=hs.shape
  have lt1:∀p,Dn π listed p→p<k+1:=fun p h=>mU (J.dlt p h)
  have eff1:∀p,p<k+1→(D.sh p).isEff=true→Dn π listed p:=by
    intro p hp he
    rcases ks p k with h' | h'
    · exact J.eff p h' he
    · have:p=k:=by omega
      subst this;rw[he]at hne;cases hne
  have key:(D.st (k+1)=D.st k∧((D.sh k).isMk=true→D.want k=false)∧((D.sh k).isRead=true→D.want k=true→Eb (D.sh k) (D.aS k) (D.st k)=some (D.v k))) ∨
      ∃f ob m,D.sh k=.mk f∧D.want k=true∧f (D.aS k)=some (ob,m)∧D.v k=m.val (D.st k).next∧D.st (k+1)=newObj (D.st k) ob:=by
    cases hw:D.want k with
    | false =>
      obtain⟨_,h2⟩:=hs.no hw
      exact .inl ⟨h2,fun _=>rfl,fun _ e=>by cases e⟩
    | true =>
      have hy:=hs.yes hw
      cases he:D.sh k with
      | p1 f =>
        rw[he]at hy
        have hy:JH (.p1 f) (D.aS k) (D.st k)=some (D.v k,D.st (k+1)):=hy
        refine .inl ⟨?_,fun e=>(by cases e),fun e=>(by cases e)⟩
        simp only[JH]at hy
        split at hy<;>first | (cases hy;done) | exact(CC hy).2
      | p2 f =>
        rw[he]at hy
        have hy:JH (.p2 f) (D.aS k) (D.st k)=some (D.v k,D.st (k+1)):=hy
        refine .inl ⟨?_,fun e=>(by cases e),fun e=>(by cases e)⟩
        simp only[JH]at hy
        split at hy<;>first | (cases hy;done) | exact(CC hy).2
      | p f=>rw[he]at hy;exact .inl ⟨(Me (show JH (.p f) _ _=_ from hy)).2,fun e=>(by cases e),fun e=>(by cases e)⟩
      | r1 f =>
        rw[he]at hy hsh
        have:=Je hsh has rfl (show JH (.r1 f) _ _=_ from hy)
        exact .inl ⟨this.2,fun e=>(by cases e),fun _ _=>this.1⟩
      | r f =>
        rw[he]at hy hsh
        have:=Je hsh has rfl (show JH (.r f) _ _=_ from hy)
        exact .inl ⟨this.2,fun e=>(by cases e),fun _ _=>this.1⟩
      | mk f =>
        rw[he]at hy
        obtain⟨ob,m,h1,h2,h3⟩:=JI (show JH (.mk f) _ _=_ from hy)
        exact .inr ⟨f,ob,m,rfl,rfl,h1,h2,h3⟩
      | e f=>rw[he]at hne;cases hne
      | call f=>rw[he]at hne;cases hne
      | callv=>rw[he]at hne;cases hne
  have ndk:¬ Dn π listed k:=fun h=>absurd (J.dlt k h) (Nat.lt_irrefl k)
  have split1:∀p,p<k+1→p<k∨p=k:=fun p h=>by omega
  rcases key with⟨e,hm,hrd⟩ | ⟨f,ob,m,he,hw,h1,h2,e⟩
  · refine ⟨J.lsz, hk, lt1, eff1, J.anc, by rw [e]; exact J.inv, by rw [e]; exact J.fresh, by rw [e]; exact J.fr, ?_, ?_, ?_, J.sz, J.dfr, J.rw, J.ri⟩
    · intro p hp hd hw f hf
      rcases split1 p hp with h' | rfl
      · rw[e];exact J.unb p h' hd hw f hf
      · rw[hm (by rw[hf];rfl)]at hw;cases hw
    · intro p q hpq hq d1 d2 w1 w2 m1 m2
      rcases split1 q hq with h' | rfl
      · exact J.dis p q hpq h' d1 d2 w1 w2 m1 m2
      · rw[hm m2]at w2;cases w2
    · intro q hq hd hw hr
      rw[e]
      rcases split1 q hq with h' | rfl
      · exact J.rds q h' hd hw hr
      · exact hrd hr hw
  · have hfr := J.fresh (D.st k).next (kp          _)
    have hg:∀i,i≠(D.st k).next→(newObj (D.st k) ob).heap.get i=(D.st k).heap.get i:=fun i hi=>by rw[CB,if_neg hi]
    have hsame:∀i rb,ρ i=some rb→(newObj (D.st k) ob).heap.get i=(D.st k).heap.get i:=fun i rb hi=>hg i (fun q=>by subst q;rw[hfr.1]at hi;cases hi)
    refine⟨J.lsz,hk,lt1,eff1,J.anc,?_,?_,?_,?_,?_,?_,J.sz,J.dfr,J.rw,J.ri⟩
    · rw[e];exact J.inv.same hsame
    · rw[e]
      intro i hi
      have hi:(D.st k).next+1≤i:=hi
      have:=J.fresh i (by omega)
      exact⟨this.1,by rw[hg i (by omega)];exact this.2⟩
    · rw [e]
      refine⟨J.fr.le,fun i hi h'=>J.fr.fresh i hi (h'.imp id fun(h'':(D.st k).next+1≤i)=>by omega),Nat.le_succ_of_le J.fr.next,J.fr.size,J.fr.os,J.fr.tape,J.fr.output,J.fr.keep,fun bb hb=>J.fr.own bb (hb.same hsame),?_⟩
      intro i hi h'
      have hn:i≠(D.st k).next:=by
        have:=J.fr.next
        rcases h' with h' | h'
        · omega
        · have h':(D.st k).next+1≤i:=h'
          omega
      rw[hg i hn]
      exact J.fr.unborn i hi (h'.imp id fun(h'':(D.st k).next+1≤i)=>by omega)
    · intro p hp hd hw' f' hf
      rw[e]
      rcases split1 p hp with h' | rfl
      · obtain⟨ob',m',g1,g2,g3,g4,g5,g6⟩:=J.unb p h' hd hw' f' hf
        exact⟨ob',m',g1,g2,g3,by rw[hg _ (by omega)];exact g4,g5,mU g6⟩
      · rw[he]at hf
        injection hf with hf
        subst hf
        exact⟨ob,m,h1,h2,hfr.1,by rw[CB,if_pos rfl],J.fr.next,lW _⟩
    · intro p q hpq hq d1 d2 w1 w2 m1 m2
      rcases split1 q hq with h' | rfl
      · exact J.dis p q hpq h' d1 d2 w1 w2 m1 m2
      · cases hsp:D.sh p with
        | mk fp=>obtain⟨_,_,_,_,_,_,_,g6⟩:=J.unb p hpq d1 w1 fp hsp;omega
        | _=>rw[hsp]at m1;cases m1
    · intro q hq hd hw' hr
      rw[e]
      rcases split1 q hq with h' | rfl
      · obtain⟨xq,hq1,_⟩:=(ht.step q (by omega)).shape
        exact UD (AG.sub_new hfr.2 ob) hq1 (J.rds q h' hd hw' hr)
      · rw[he]at hr;cases hr
theorem DJ.adv(ht:PT P F ops nt b π D):∀ (n k:Nat),n=π.length - k→DJ P ops b π D ρ0 w0 a0 listed k ρ a w→∃k',DJ P ops b π D ρ0 w0 a0 listed k' ρ a w∧(k'=π.length∨(D.sh k').isEff=true):=by
 intro n
 induction n with
 | zero=>intro k hn J;exact⟨k,J,.inl (by have:=J.kle;omega)⟩
 | succ n ih =>
  intro k hn J
  cases he:(D.sh k).isEff with
  | true=>exact⟨k,J,.inr he⟩
  | false=>exact ih (k+1) (by omega) (J.adv1 ht (by omega) he)
theorem gZ(hp:Ig P ops b π){p i q:Nat}(hi:π[p]? = some i)(hl:listed.size=ops.size):Dn π (listed.setIfInBounds i true) q↔Dn π listed q∨q=p:=by
  have hlt:=hp.lt p i hi
  constructor
  · rintro⟨j,h1,h2⟩
    by_cases e:j=i
    · subst e;exact .inr (hp.inj q p j h1 hi)
    · rw[Array.getElem?_setIfInBounds_ne (Ne.symm e)]at h2
      exact .inl ⟨j,h1,h2⟩
  · rintro (⟨j, h1, h2⟩ | rfl)
    · refine⟨j,h1,?_⟩
      by_cases e:j=i
      · subst e;simp[hl,hlt]
      · rw[Array.getElem?_setIfInBounds_ne (Ne.symm e)];exact h2
    · exact⟨i,hi,by simp[hl,hlt]⟩
theorem Mb{a:Act}{d' d:Tmp}{v:Value}(h:d'≠d):(a.put (some d') v).tmps.getD d undef=a.tmps.getD d undef:=by
 simp[Act.put,Array.getD_eq_getD_getElem?,Array.getElem?_setIfInBounds_ne h]
theorem DJ.put (ht : PT P F ops nt b π D) (hp : Ig     P ops b π) (hnt : nt ≤ a0.tmps.size) (J : DJ P ops b π D ρ0 w0 a0 listed k ρ a w) {p i k' : Nat} (hi : π[p]? = some i) (hnd : ¬ Dn π listed p) (hpk : p < k') (hkk : k ≤ k') (hk'' : ∀ q, q < k' → q = p ∨ q < k) (hkn : k' ≤ π.length)
    (hanc:∀j:Nat,j<ops.size→(b.getD i 0).testBit j=true→listed[j]? = some true) {v':Value} (hv:AZ ρ1 (D.v p) v') (le:ρ.le ρ1)
    (inv:Bf P ρ1 (D.st k') w1) (fresh:BX ρ1 (D.st k')) (fr:Fr ρ0 (D.st 0) w0 ρ1 (D.st k') w1)
    (unb:∀q,q<k→q≠p→¬ Dn π listed q→D.want q=true→∀f,D.sh q=.mk f→ρ1 (D.st q).next=none∧(D.st k').heap.get (D.st q).next=(D.st k).heap.get (D.st q).next∧(D.st q).next<(D.st k').next)
    (rds:∀q,q<k→q≠p→¬ Dn π listed q→D.want q=true→(D.sh q).isRead=true→Eb (D.sh q) (D.aS q) (D.st k')=some (D.v q)):
    DJ P ops b π D ρ0 w0 a0 (listed.setIfInBounds i true) k' ρ1 (a.put (D.o p).dst v') w1:=by
  have hlt:=hp.lt p i hi
  have hpl:p<π.length:=by omega
  have dn:=fun q=>gZ (listed:=listed) (q:=q) hp hi J.lsz
  have up:∀j:Nat,listed[j]? = some true→(listed.setIfInBounds i true)[j]? = some true:=by
    intro j h
    by_cases e:j=i
    · subst e;simp[J.lsz,hlt]
    · rw[Array.getElem?_setIfInBounds_ne (Ne.symm e)];exact h
  have uniq:∀q r d,q<r→r<π.length→(D.o q).dst=some d→(D.o r).dst=some d→False:=by
    intro q r d hqr hr h1 h2
    have hr':=ky hr
    have hq':=ky (show q<π.length by omega)
    exact(hp.wdst r q _ _ _ _ d hr' hq' hqr (ht.op r _ hr') (ht.op q _ hq') h2).1 h1
  have nd:∀q,¬ Dn π (listed.setIfInBounds i true) q→¬ Dn π listed q∧q≠p:=fun q h=>⟨fun h'=>h ((dn q).2 (.inl h')),fun h'=>h ((dn q).2 (.inr h'))⟩
  refine⟨by simp[J.lsz],hkn,?_,?_,?_,inv,fresh,fr,?_,?_,?_,by rw[FS];exact J.sz,by rw[LQ];exact J.dfr,?_,?_⟩
  · intro q hq
    rcases(dn q).1 hq with h' | rfl
    · exact lR (J.dlt q h') hkk
    · exact hpk
  · intro q hq he
    rcases hk'' q hq with rfl | h'
    · exact(dn q).2 (.inr rfl)
    · exact(dn q).2 (.inl (J.eff q h' he))
  · intro q j hj hq l hl hb
    rcases(dn q).1 hq with h' | rfl
    · exact up l (J.anc q j hj h' l hl hb)
    · rw[hi]at hj
      injection hj with hj
      subst hj
      exact up l (hanc l hl hb)
  · intro q hq hd hw f hf
    obtain⟨d1,d2⟩:=nd q hd
    have hqk:=(hk'' q hq).resolve_left d2
    obtain⟨ob,m,g1,g2,g3,g4,g5,g6⟩:=J.unb q hqk d1 hw f hf
    obtain⟨u1,u2,u3⟩:=unb q hqk d2 d1 hw f hf
    exact⟨ob,m,g1,g2,u1,by rw[u2];exact g4,g5,u3⟩
  · intro q r hqr hr d1 d2 w1 w2 m1 m2
    obtain⟨d1,e1⟩:=nd q d1
    obtain⟨d2,e2⟩:=nd r d2
    exact J.dis q r hqr ((hk'' r hr).resolve_left e2) d1 d2 w1 w2 m1 m2
  · intro q hq hd hw hr
    obtain⟨d1,d2⟩:=nd q hd
    exact rds q ((hk'' q hq).resolve_left d2) d2 d1 hw hr
  · intro q hq d hd
    rcases(dn q).1 hq with h' | rfl
    · have hqn : q < π.length := lR                 (J.dlt q h') J.kle
      have hne:(D.o p).dst≠some d:=by
        intro e
        rcases mM q p with h'' | h'' | h''
        · exact uniq q p d h'' hpl hd e
        · subst h'';exact hnd h'
        · exact uniq p q d h'' hqn e hd
      have:=(J.rw q h' d hd).mono le
      cases hdp:(D.o p).dst with
      | none=>exact this
      | some d' =>
        rw[Mb fun e=>hne (by rw[hdp,e])]
        exact this
    · have hd':d<a.tmps.size:=by
        rw[J.sz];exact lR ((ht.step q hpl).lt d hd) hnt
      rw[hd]
      simpa[Act.put,Array.getD_eq_getD_getElem?,hd']using hv
  · intro t hq x hx
    have hne:(D.o p).dst≠some t:=hq p ((dn p).2 (.inr rfl))
    have:=(J.ri t (fun q h'=>hq q ((dn q).2 (.inl h'))) x hx).mono le
    cases hdp:(D.o p).dst with
    | none=>exact this
    | some d' =>
      rw[Mb fun e=>hne (by rw[hdp,e])]
      exact this
end
end
end Go.Proofs.Ytilhhmkdcoajnaa.Am
