/- Addresses of parts, lengths, conversions, copy, clear; conditions: none. -/
import Derived.Test.YtilhhmkdcoajnaaAmApp2
set_option linter.unusedVariables false
set_option linter.unusedSimpArgs false
namespace Go.Proofs.Ytilhhmkdcoajnaa.Am
open Go
noncomputable section
section
variable{P:Program}{ρ ρ1 ρ2:Rho}{s s1 s2:ASt}{w w1 w2:World}
theorem MF{t:TypeId}{x v:AV}{x':Value}{f:Nat}(h:AB P t x f=some v)(hx:Aa ρ x x'):
    ∃v',(Instr.fieldAt t x' f).run P w=.ok v' w∧Aa ρ v v':=by
  unfold AB at h
  split at h<;>first | (cases h;done) | skip
  rename_i i o
  split at h<;>first | (cases h;done) | skip
  rename_i fs hfs
  simp only[oE]at h
  obtain⟨fd,hfd,n,hn,h⟩:=h
  obtain⟨hz,h⟩:=AJ h
  injection h with h;subst h
  have hn0:n≠0:=by intro e;subst e;cases hz
  cases hx with
  | ptr hr =>
    rename_i rb
    refine⟨.pointer (some ⟨rb.b,rb.off+(o+fd.offset),none⟩),?_,.ptr hr⟩
    simp[Instr.fieldAt,AL hfs,hfd,Instr.sureAddr,fieldPlace,BH hn,hn0,Cg,pJ]
theorem MH{t:TypeId}{x ix v:AV}{x' ix':Value}(h:AC P t x ix=some v)(hx:Aa ρ x x')(hi:Aa ρ ix ix'):
    ∃v',(Instr.indexAt t x' ix').run P w=.ok v' w∧Aa ρ v v':=by
  unfold AC at h
  simp only[oE]at h
  obtain⟨k,hk,h⟩:=h
  obtain⟨kd,rfl⟩:=LN hk hi
  split at h<;>first | (cases h;done) | skip
  · split at h<;>first | (cases h;done) | skip
    rename_i i o _ len e he
    simp only[oE]at h
    obtain⟨n,hn,h⟩:=h
    obtain⟨hlt,h⟩:=AJ h
    injection h with h;subst h
    have hlt':k<len:=by simpa[oq]using hlt
    cases hx with
    | ptr hr =>
      rename_i rb
      have:(0:Int)≤(k:Int)∧(k:Int)<(len:Int):=by omega
      refine⟨.pointer (some ⟨rb.b,rb.off+(o+k * n),none⟩),?_,.ptr hr⟩
      simp[Instr.indexAt,asIntOf,AL he,Instr.sureAddr,this,BH hn,Cg,pJ]
      omega
  · split at h<;>first | (cases h;done) | skip
    rename_i i o len cap _ e he
    simp only[oE]at h
    obtain⟨n,hn,h⟩:=h
    obtain⟨hlt,h⟩:=AJ h
    injection h with h;subst h
    have hlt':k<len:=by simpa[oq]using hlt
    have:(0:Int)≤(k:Int)∧(k:Int)<(len:Int):=by omega
    cases hx with
    | slice hr hl =>
      rename_i c rb
      refine⟨.pointer (some ⟨rb.b,rb.off+(o+k * n),none⟩),?_,.ptr hr⟩
      simp[Instr.indexAt,asIntOf,AL he,Instr.sureAddr,this,BH hn,Cg,pJ]
      omega
    | sliceOpen hr hs hl h1 h2 =>
      rename_i c rb
      refine⟨.pointer (some ⟨rb.b,rb.off+(o+k * n),none⟩),?_,.ptr hr⟩
      simp[Instr.indexAt,asIntOf,AL he,Instr.sureAddr,this,BH hn,Cg,pJ]
      omega
    | sliceEnd=>omega
theorem co      (h : Inv P ρ s w) {t ty : TypeId} {x v : AV} {x' : Value} {tys : Array TypeId} (ht : tys[0]? = some t) (hs : Ao   P s t x = some v) (hx : Aa   ρ x x') :
    ∃v',(Builtin.len_ tys ty #[x']).run P w=.ok v' w∧Aa ρ v v':=by
  unfold Ao at hs
  split at hs<;>first | (cases hs;done) | skip
  · split at hs<;>first | (cases hs;done) | skip
    rename_i hu
    injection hs with hs;subst hs
    cases hx with
    | str he =>
      rename_i b
      subst he
      refine⟨.int .i64 b.size,by simp[Builtin.len_,ht,AL hu,goInt],?_⟩
      have:(Int.ofNat (FY b.data.toList).length)=(b.size:Int):=by rw[Fs];rfl
      rw[this]
      exact .int _ _
  · split at hs<;>first | (cases hs;done) | skip
    rename_i hu
    injection hs with hs;subst hs
    cases hx<;>exact⟨_,by simp only[Builtin.len_,ht];simp[AL hu,goInt]<;>rfl,.int _ _⟩
  · split at hs<;>first | (cases hs;done) | skip
    rename_i hu
    injection hs with hs;subst hs
    cases hx
    exact⟨_,by simp only[Builtin.len_,ht];simp[AL hu,goInt]<;>rfl,.int _ _⟩
  · split at hs <;> first | (cases hs; done) | skip
    rename_i i _ k e hu
    split at hs<;>first | (cases hs;done) | skip
    rename_i es clock hg
    injection hs with hs;subst hs
    cases hx with
    | map hr =>
      rename_i rb
      obtain⟨es',hh,he⟩:∃es':Array MapEntry,w.heap[rb.b]? = some (.map es' clock)∧Ed ρ es es'.toList:=h.obj i _ rb hg hr
      have hlen:es.length=es'.size:=by
        have:es.length=es'.toList.length:=by
          clear hh hg
          generalize es'.toList=l at he
          induction he with
          | nil=>rfl
          | cons _ _ _ _ ih=>simp[ih]
        simpa using this
      refine⟨.int .i64 es'.size,by simp[Builtin.len_,ht,AL hu,goInt,getObj,hh,Sem.run],?_⟩
      rw[hlen]
      exact .int _ _
theorem bv      (h : Inv P ρ s w) {t ty : TypeId} {x v : AV} {x' : Value} {tys : Array TypeId} (ht : tys[0]? = some t) (hs : MD   P s t x = some v) (hx : Aa   ρ x x') :
    ∃v',(Builtin.cap_ tys ty #[x']).run P w=.ok v' w∧Aa ρ v v':=by
  unfold MD at hs
  split at hs<;>first | (cases hs;done) | skip
  rename_i a len cap
  split at hs<;>first | (cases hs;done) | skip
  rename_i e hu
  split at hs
  · injection hs with hs;subst hs
    cases hx<;>exact⟨_,by simp only[Builtin.cap_,ht];simp[AL hu,goInt]<;>rfl,.int _ _⟩
  · split at hs<;>first | (cases hs;done) | skip
    rename_i i o
    simp only[oE]at hs
    obtain⟨n,hn,r,hrow,hs⟩:=hs
    obtain⟨hg,hs⟩:=AJ hs
    injection hs with hs;subst hs
    simp only[Bool.and_eq_true,Bool.not_eq_true',oQ]at hg
    obtain⟨⟨⟨g1,g2⟩,g3⟩,g4⟩:=hg
    have g3:=A5 g3
    have hn0 : 0 < n := by rcases pO                 n with e0 | h'; · subst e0; cases g4
                           · exact h'
    cases hx with
    | sliceOpen hr hs hl h1 h2 =>
      rename_i c rb
      have hok:Fe ρ w r rb:=h.obj i _ rb (Cn hrow) hr
      have hsz:rb.sz=n:=by rw[← hok.sz];exact g3.symm
      have hN:rb.N=r.n:=hok.tight g1
      rw[hsz,hN]at h1 h2
      have:(r.n - o) / n=c:=by
        have e1:c * n≤r.n - o:=by omega
        have e2:r.n - o<(c+1) * n:=by omega
        exact Nat.le_antisymm (Nat.lt_succ_iff.1 ((Nat.div_lt_iff_lt_mul hn0).2 e2)) ((Nat.le_div_iff_mul_le hn0).2 e1)
      refine⟨.int .i64 c,by simp[Builtin.cap_,ht,AL hu,goInt],?_⟩
      rw[this]
      exact .int _ _
    | sliceEnd hr hs h1 h2 =>
      rename_i rb ad
      have hok:Fe ρ w r rb:=h.obj i _ rb (Cn hrow) hr
      have hsz:rb.sz=n:=by rw[← hok.sz];exact g3.symm
      have hN:rb.N=r.n:=hok.tight g1
      rw[hsz,hN]at h2
      have:(r.n - o) / n=0:=Nat.div_eq_of_lt (by omega)
      refine⟨.int .i64 (0:Nat),by simp[Builtin.cap_,ht,AL hu,goInt],?_⟩
      rw[this]
      exact .int _ _
theorem HA        {mx : Bool} : ∀ {l : List AV} {v r : AV} {v' : Value} {l' : List Value}, DU     mx v l = some r → Aa   ρ v v' → AU    ρ l l' →
    ∃r',(l'.foldlM (if mx then Builtin.max2 else Builtin.min2) v').run P w=.ok r' w∧Aa ρ r r'
  | [],v,r,v',l',h,hv,hl=>by
    cases hl
    have:DU mx v []=some v:=by cases v<;>rfl
    rw[this]at h
    injection h with h;subst h
    exact⟨v',by simp,hv⟩
  | a::l,v,r,v',l',h,hv,hl=>by
    cases hl with
    | cons ha hl =>
      unfold DU at h
      split at h<;>first | (cases h;done) | skip
      · rename_i hq;cases hq
      · rename_i k a k2 b l2 hq
        injection hq with h1 h2
        subst h1;subst h2
        obtain⟨hk,hg⟩:=AJ h
        clear h
        have hkk:=FQ hk
        clear hk
        subst hkk
        cases hv;cases ha
        cases mx with
        | true =>
          obtain⟨r',e1,e2⟩:=HA hg (.int _ _) hl
          refine⟨r',?_,e2⟩
          simp only[cond_true,D4]at e1
          simp only[if_true,List.foldlM_cons,Builtin.max2]at e1 ⊢
          simp only[Sem.run_bind,Sem.run_pure,Result.andThen_ok]
          rw[← e1]
          by_cases hc:a<b
          · rw[if_pos (show b > a from hc)];simp[hc]
          · rw[if_neg (show ¬ b > a from hc)];simp[hc]
        | false =>
          obtain⟨r',e1,e2⟩:=HA hg (.int _ _) hl
          refine⟨r',?_,e2⟩
          simp only[cond_false,D4]at e1
          simp only[if_neg Bool.false_ne_true,List.foldlM_cons,Builtin.min2]at e1 ⊢
          simp only[Sem.run_bind,Sem.run_pure,Result.andThen_ok]
          rw[← e1]
          by_cases hc:b<a
          · rw[if_pos hc];simp[hc]
          · rw[if_neg hc];simp[hc]
theorem KX         : ∀ {l : List AV} {l' : List Value} {b : List Nat} {acc : ByteArray}, Cj.bytesOf    l = some b → AU    ρ l l' →
    ∃r:ByteArray,((forIn (m:=Sem) l' acc fun c (s:ByteArray)=>match c with
      | .int .u8 n=>pure (ForInStep.yield (s.push (UInt8.ofNat n.toNat)))
      | _=>do
        stuck "bytesToString: byte expected"
        pure (ForInStep.yield s))).run P w=.ok r w∧FY r.data.toList=FY acc.data.toList++b
  | [],l',b,acc,h,hl=>by
    cases hl
    simp[Cj.bytesOf]at h
    subst h
    exact⟨acc,by simp,by simp⟩
  | a::l,l',b,acc,h,hl=>by
    cases hl with
    | cons ha hl =>
      unfold Cj.bytesOf at h
      split at h<;>first | (cases h;done) | skip
      · rename_i hq;cases hq
      · rename_i n l2 hq
        injection hq with h1 h2
        subst h1;subst h2
        obtain⟨hb,hg⟩:=AJ h
        clear h
        simp only[oE]at hg
        obtain⟨b',hb',hg⟩:=hg
        injection hg with hg;subst hg
        cases ha
        obtain⟨r,e1,e2⟩:=KX (acc:=acc.push (UInt8.ofNat n)) hb' hl
        refine⟨r,?_,?_⟩
        · rw[← e1]
          simp
        · rw[e2]
          have:n<256:=by simpa[oq]using hb
          simp[ByteArray.push,UInt8.toNat_ofNat,Nat.mod_eq_of_lt this]
theorem ZI       (h : Inv P ρ s w) {src dst : TypeId} {x v : AV} {x' : Value} (hs : Cj    P s src dst x = some v) (hx : Aa   ρ x x') :
    ∃v',(convert src dst x').run P w=.ok v' w∧Aa ρ v v':=by
  unfold Cj at hs
  split at hs<;>first | (cases hs;done) | skip
  · rename_i d k kd n hd hk
    injection hs with hs;subst hs
    cases hx
    exact⟨.int k (k.wrap n),by simp[convert,AL hd,AL hk,Conv.intToInt],by rw[Gy];exact .int _ _⟩
  · rename_i d l hd hk
    injection hs with hs;subst hs
    cases hx with
    | str he=>exact⟨_,by simp[convert,AL hd,AL hk]<;>rfl,.str he⟩
  · rename_i e a len cap hd hk
    split at hs<;>first | (cases hs;done) | skip
    rename_i he
    split at hs
    · injection hs with hs;subst hs
      cases hx<;>exact⟨.string .empty,by simp[convert,AL hd,AL hk,AL he,Conv.bytesToString],.str rfl⟩
    · rename_i i o
      simp only[oE]at hs
      obtain⟨l,hl,b,hb,hs⟩:=hs
      injection hs with hs;subst hs
      obtain⟨rb,ad,c,hr,hv,hlc,hexact,hopen⟩:=Cz hx
      subst hv
      obtain⟨l',e1,e2,e3⟩:=EL h hr hl
      have e3':(loadCells ad len).run P w=.ok l'.toArray w:=by
        cases cap with
        | some c0=>obtain⟨_,rfl⟩:=hexact c0 rfl;exact e3 w rfl
        | none =>
          rcases(hopen rfl).2 with⟨rfl,_⟩ | ⟨rfl,_⟩
          · exact e3 w rfl
          · have:l'=[]:=by simpa using e2
            subst this
            exact E6 ad w
      obtain⟨r,f1,f2⟩:=KX (P:=P) (w:=w) (acc:=.empty) hb e1
      refine⟨.string r,?_,.str (by simpa using f2)⟩
      simp only[convert,Sem.run_bind,AL hd,AL hk,AL he,Result.andThen_ok,Conv.bytesToString,e3']
      simp only[List.forIn_toArray]
      exact(congrArg (fun(r:Result ByteArray)=>r.andThen fun a w'=>Sem.run P (pure (Value.string a)) w') f1)
end
end
end Go.Proofs.Ytilhhmkdcoajnaa.Am
