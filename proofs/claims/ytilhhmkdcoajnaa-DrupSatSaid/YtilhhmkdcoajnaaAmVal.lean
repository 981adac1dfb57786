/- What the abstract machine computes without memory, the model computes too; conditions: none. -/
import Derived.Laws.Entries
import Derived.Laws.Slices
import Derived.Laws.Strings
import Derived.Lib.Hide
import Derived.Test.YtilhhmkdcoajnaaAmRel
set_option linter.unusedVariables false
set_option linter.unusedSimpArgs false
namespace Go.Proofs.Ytilhhmkdcoajnaa.Am
open Go
noncomputable section
theorem Fp{α:Type}{P:Program}{w:World}:∀ {s:Sem α}{a:α},Eo P s=some a→s.run P w=.ok a w:=by
  intro s
  induction s with
  | pure b=>intro a h;simp[Eo]at h;subst h;rfl
  | program k ih=>intro a h;simp only[Eo]at h;simp only[Sem.run];exact ih P h
  | mark m k ih=>intro a h;simp only[Eo]at h;simp only[Sem.run];exact ih h
  | load=>intro a h;simp[Eo]at h
  | store=>intro a h;simp[Eo]at h
  | new=>intro a h;simp[Eo]at h
  | shape=>intro a h;simp[Eo]at h
  | freeze=>intro a h;simp[Eo]at h
  | frozen=>intro a h;simp[Eo]at h
  | getObj=>intro a h;simp[Eo]at h
  | setObj=>intro a h;simp[Eo]at h
  | choose=>intro a h;simp[Eo]at h
  | sys=>intro a h;simp[Eo]at h
  | halt=>intro a h;simp[Eo]at h
section types
variable{P:Program}{w:World}{t:TypeId}
theorem AL{d:TypeDesc}(h:P.underlying t=some d):(underlying t).run P w=.ok d w:=by simp[underlying,h]
theorem KG{g:Bool}(h:Ey P t=some g):(isAgg t).run P w=.ok g w:=by
  unfold Ey at h
  split at h
  · injection h with h;subst h;simp[isAgg,underlying, *]
  · injection h with h;subst h;simp[isAgg,underlying, *]
  · rename_i d _ _ hd
    injection h with h;subst h
    simp only[isAgg,Sem.run_bind,AL hd,Result.andThen_ok]
    cases d<;>simp_all
  · cases h
theorem BH{n:Nat}(h:BB P t=some n):(sizeOf t).run P w=.ok n w:=by
  unfold BB at h
  split at h
  · injection h with h;subst h;simp[sizeOf,typeInfo, *]
  · cases h
theorem VK{n:Nat}(h:CM P t=some n):∃i,(typeInfo t).run P w=.ok i w∧i.bytes=n:=by
  unfold CM at h
  split at h
  · injection h with h;rename_i i hi;exact⟨i,by simp[typeInfo,hi],h⟩
  · cases h
theorem Ij(ρ:Rho){z:AV}(h:B9 P t=some z):∃v,(zeroValue t).run P w=.ok v w∧Aa ρ z v:=by
  unfold B9 at h
  split at h
  · split at h
    · rename_i i hi _ v hv
      exact⟨v,by simp[zeroValue,typeInfo,hi,hv],B1 ρ h⟩
    · cases h
  · cases h
end types
theorem KO{k:IntKind}{n:Int}(h:B0 k n=true):k.wrap n=n:=by
  have hb:k.min≤n∧n≤k.max:=by
    unfold B0 at h
    cases n with
    | ofNat m=>cases k<;>simp[oQ]at h<;>simp[IntKind.min,IntKind.max,IntKind.signed,IntKind.bits]<;>omega
    | negSucc m=>cases k<;>simp[oQ]at h<;>simp[IntKind.min,IntKind.max,IntKind.signed,IntKind.bits]<;>omega
  cases k<;>simp[IntKind.min,IntKind.max,IntKind.signed,IntKind.bits]at hb<;>simp only[IntKind.wrap,IntKind.signed,IntKind.bits]<;>simp<;>omega
theorem Gy(k:IntKind)(n:Int):Du k n=k.wrap n:=by
  unfold Du
  cases h:B0 k n with
  | true=>simp[KO h]
  | false=>rfl
theorem D4(a b:Int):ltI a b=decide (a<b):=by
  cases a with
  | ofNat a=>cases b with
    | ofNat b=>rw[Bool.eq_iff_iff];simp only[ltI,oq,decide_eq_true_iff,Int.ofNat_eq_natCast];omega
    | negSucc b=>simp only[ltI];rw[eq_comm,decide_eq_false_iff_not];simp only[Int.ofNat_eq_natCast];omega
  | negSucc a=>cases b with
    | ofNat b=>simp only[ltI];rw[eq_comm,decide_eq_true_iff];simp only[Int.ofNat_eq_natCast];omega
    | negSucc b=>rw[Bool.eq_iff_iff];simp only[ltI,oq,decide_eq_true_iff];omega
theorem F2(a b:Int):eqI a b=(a == b):=by
  rw[Bool.eq_iff_iff,beq_iff_eq]
  cases a with
  | ofNat a=>cases b with
    | ofNat b=>simp only[eqI,Nat.beq_eq,Int.ofNat_eq_natCast];omega
    | negSucc b=>simp[eqI]
  | negSucc a=>cases b with
    | ofNat b=>simp[eqI]
    | negSucc b=>simp only[eqI,Nat.beq_eq];omega
theorem FQ{k k':IntKind}(h:Bs k k'=true):k=k':=by cases k<;>cases k'<;>first | rfl | cases h
theorem Zr{n:Int}{m:Nat}(h:Ms n=some m):n=(m:Int):=by cases n<;>simp[Ms]at h;subst h;rfl
theorem ZZ{P:Program}{ρ:Rho}{op:BinOp}{k:IntKind}{a b:Int}{v:AV}(h:ZY P op k a b=some v)(t:TypeId)(w:World):
    ∃v',(Go.binOp op t (.int k a) (.int k b)).run P w=.ok v' w∧Aa ρ v v':=by
  unfold ZY at h
  split at h
  case h_1=>injection h with h;subst h;exact⟨.int k (k.wrap (a+b)),by simp[Go.binOp,Op.intArith],by rw[Gy];exact .int _ _⟩
  case h_2=>injection h with h;subst h;exact⟨.int k (k.wrap (a - b)),by simp[Go.binOp,Op.intArith],by rw[Gy];exact .int _ _⟩
  case h_3=>injection h with h;subst h;exact⟨.int k (k.wrap (a * b)),by simp[Go.binOp,Op.intArith],by rw[Gy];exact .int _ _⟩
  case h_4=>injection h with h;subst h;exact⟨.bool (a == b),by simp[Go.binOp,Op.intCmp],by rw[F2];exact .bool _⟩
  case h_5=>injection h with h;subst h;exact⟨.bool (a != b),by simp[Go.binOp,Op.intCmp],by rw[F2];exact .bool _⟩
  case h_6=>injection h with h;subst h;exact⟨.bool (a<b),by simp[Go.binOp,Op.intCmp],by rw[D4];exact .bool _⟩
  case h_7=>injection h with h;subst h;exact⟨.bool (a≤b),by simp[Go.binOp,Op.intCmp],by rw[D4,show(!decide (b<a))=decide (a≤b)from by rw[Bool.eq_iff_iff];simp];exact .bool _⟩
  case h_8=>injection h with h;subst h;exact⟨.bool (a > b),by simp[Go.binOp,Op.intCmp],by rw[D4];exact .bool _⟩
  case h_9=>injection h with h;subst h;exact⟨.bool (a≥b),by simp[Go.binOp,Op.intCmp],by rw[D4,show(!decide (a<b))=decide (a≥b)from by rw[Bool.eq_iff_iff];simp];exact .bool _⟩
  case h_10 =>
    simp only[oE]at h
    obtain⟨u,hu,h⟩:=h
    exact⟨u,by have:=Fp (w:=w) hu;simpa[Go.binOp]using this,B1 ρ h⟩
  case h_11 =>
    simp only[oE]at h
    obtain⟨u,hu,h⟩:=h
    exact⟨u,by have:=Fp (w:=w) hu;simpa[Go.binOp]using this,B1 ρ h⟩
  case h_12=>cases h
  case h_13=>cases h
  case h_14 =>
    simp only[oE]at h
    obtain⟨u,hu,h⟩:=h
    refine⟨u,?_,B1 ρ h⟩
    have:=Fp (w:=w) hu
    rename_i n1 n2 n3 n4 n5 n6 n7 n8 n9 n10 n11 n12 n13
    cases op<;>first | (exfalso;simp at *;done) | simpa[Go.binOp]using this
abbrev FY(l:List UInt8):List Nat:=l.map (fun(b:UInt8)=>b.toNat)
theorem toNat_inj{a b:UInt8}(h:a.toNat=b.toNat):a=b:=UInt8.toNat_inj.1 h
theorem Ht:∀ (x y:List UInt8),GI (FY x) (FY y)=(x == y)
  | [],[]=>rfl
  | [],_::_=>rfl
  | _::_,[]=>rfl
  | a::x,b::y=>by
    simp only[FY,pR,GI]
    by_cases e:a=b
    · subst e
      have:Nat.beq a.toNat a.toNat=true:=by simp[Nat.beq_eq]
      rw[this]
      have ih:=Ht x y
      simp only[FY]at ih
      simp[ih]
    · have:Nat.beq a.toNat b.toNat=false:=Aj.beq_no (fun h=>e (toNat_inj h))
      rw[this]
      simp[e]
theorem Lw:∀ (x y:List UInt8),Lv (FY x) (FY y)=Op.bytesLess x y
  | [],[]=>rfl
  | [],_::_=>rfl
  | _::_,[]=>rfl
  | a::x,b::y=>by
    simp only[FY,pR,Lv,Op.bytesLess]
    have ih:=Lw x y
    simp only[FY]at ih
    have h1:Nat.blt a.toNat b.toNat=decide (a<b):=by rw[Bool.eq_iff_iff];simp[oq,UInt8.lt_iff_toNat_lt]
    have h2:Nat.beq a.toNat b.toNat=(a == b):=by
      rw[Bool.eq_iff_iff,beq_iff_eq,Nat.beq_eq]
      exact⟨fun h=>toNat_inj h,fun h=>by rw[h]⟩
    rw[h1,h2,ih]
    cases decide (a<b)<;>cases (a == b)<;>rfl
theorem Fs(s:ByteArray):(FY s.data.toList).length=s.size:=by simp[FY]
theorem aV{P:Program}{ρ:Rho}{op:BinOp}{x y:ByteArray}{v:AV}(h:UA op (FY x.data.toList) (FY y.data.toList)=some v)(w:World):
    ∃v',(Op.stringOp op x y).run P w=.ok v' w∧Aa ρ v v':=by
  unfold UA at h
  rw[Ht,Lw,Fs,Fs]at h
  unfold Op.stringOp
  rw[ByteArray.toList_eq,ByteArray.toList_eq]
  split at h
  case h_1 =>
    obtain⟨hb,h⟩:=AJ h
    injection h with h;subst h
    have hb':x.size+y.size≤1152921504606846976:=by simpa[oQ]using hb
    refine⟨.string (x++y),?_,.str (by simp[FY])⟩
    have:¬ ((x.size+y.size:Nat):Int) > IntKind.i64.max:=by simp[IntKind.max,IntKind.signed,IntKind.bits];omega
    simp only[this,if_false]
    rfl
  case h_2=>injection h with h;subst h;exact⟨_,rfl,.bool _⟩
  case h_3=>injection h with h;subst h;exact⟨_,rfl,.bool _⟩
  case h_4=>injection h with h;subst h;exact⟨_,rfl,.bool _⟩
  case h_5=>injection h with h;subst h;exact⟨_,rfl,.bool _⟩
  case h_6=>injection h with h;subst h;exact⟨_,rfl,.bool _⟩
  case h_7=>injection h with h;subst h;exact⟨_,rfl,.bool _⟩
  case h_8=>cases h
section
variable{P:Program}{ρ:Rho}{w:World}
theorem Jh{t:TypeId}(h:Nw P t=true):∃e,P.underlying t=some (.pointer e):=by
  unfold Nw at h;split at h
  · rename_i e he;exact⟨e,he⟩
  · cases h
theorem HT{t:TypeId}(h:EK P t=true):∃e,P.underlying t=some (.slice e):=by
  unfold EK at h;split at h
  · rename_i e he;exact⟨e,he⟩
  · cases h
theorem Jg{t:TypeId}(h:Nv P t=true):∃k e,P.underlying t=some (.map k e):=by
  unfold Nv at h;split at h
  · rename_i k e he;exact⟨k,e,he⟩
  · cases h
theorem F3{t:TypeId}(h:IS P t=true):∃a b c,P.underlying t=some (.func a b c):=by
  unfold IS at h;split at h
  · rename_i a b c he;exact⟨a,b,c,he⟩
  · cases h
theorem Nu{t:TypeId}(h:Nt P t=true):P.underlying t=some .bool:=by
  unfold Nt at h;split at h
  · rename_i he;exact he
  · cases h
set_option maxHeartbeats 1000000 in
theorem lL{t:TypeId}{x y:AV}{x' y':Value}{b:Bool}(h:eqV P t x y=some b)(hx:Aa ρ x x')(hy:Aa ρ y y')(d:Nat):
    (Op.equalIn (d+1) t x' y').run P w=.ok b w:=by
  unfold eqV at h
  split at h
  all_goals first | (cases h;done) | skip
  · obtain⟨ht,h⟩:=AJ h
    injection h with h;subst h
    cases hx;cases hy
    simp[Op.equalIn,AL (Nu ht)]
  · obtain⟨ht,h⟩:=AJ h
    injection h with h;subst h
    obtain⟨e,ht⟩:=Jh ht
    cases hx;cases hy<;>simp[Op.equalIn,AL ht]
  · obtain⟨ht,h⟩:=AJ h
    injection h with h;subst h
    obtain⟨e,ht⟩:=Jh ht
    cases hy;cases hx<;>simp[Op.equalIn,AL ht]
  · obtain⟨ht,h⟩:=AJ h
    injection h with h;subst h
    obtain⟨e,ht⟩:=HT ht
    cases hx;cases hy<;>simp[Op.equalIn,AL ht]
  · obtain⟨ht,h⟩:=AJ h
    injection h with h;subst h
    obtain⟨e,ht⟩:=HT ht
    cases hy;cases hx<;>simp[Op.equalIn,AL ht]
  · obtain⟨ht,h⟩:=AJ h
    injection h with h;subst h
    obtain⟨k,e,ht⟩:=Jg ht
    cases hx;cases hy<;>simp[Op.equalIn,AL ht]
  · obtain⟨ht,h⟩:=AJ h
    injection h with h;subst h
    obtain⟨k,e,ht⟩:=Jg ht
    cases hy;cases hx<;>simp[Op.equalIn,AL ht]
  · obtain⟨ht,h⟩:=AJ h
    injection h with h;subst h
    obtain⟨a,b,c,ht⟩:=F3 ht
    cases hy;cases hx;simp[Op.equalIn,AL ht]
  · obtain⟨ht,h⟩:=AJ h
    injection h with h;subst h
    obtain⟨a,b,c,ht⟩:=F3 ht
    cases hy;cases hx;simp[Op.equalIn,AL ht]
  · obtain⟨ht,h⟩:=AJ h
    injection h with h;subst h
    obtain⟨a,b,c,ht⟩:=F3 ht
    cases hy;cases hx;simp[Op.equalIn,AL ht]
theorem ZN{t:TypeId}{x y:AV}{x' y':Value}{b:Bool}(h:eqV P t x y=some b)(hx:Aa ρ x x')(hy:Aa ρ y y'):
    (Op.equal t x' y').run P w=.ok b w:=lL h hx hy 9999
def Z5:Value→Bool
  | .nilIface | .agg _=>false
  | _=>true
theorem F1{x':Value}(h:Z5 x'=true)(op:BinOp)(t:TypeId)(ox oy:Operand)(y':Value):
    (eqGuard op t ox oy x' y').run P w=.ok () w:=by
  cases x'<;>first | (cases h;done) | (cases op<;>rfl)
theorem Mh{t:TypeId}{x y:AV}{x':Value}{b:Bool}(h:eqV P t x y=some b)(hx:Aa ρ x x'):Z5 x'=true:=by
  unfold eqV at h
  split at h<;>first | (cases h;done) | (cases hx<;>rfl)
theorem bA      {op : BinOp} {t : TypeId} {x y v : AV} {x' y' : Value} (h : AI   P op t x y = some v) (hx : Aa   ρ x x') (hy : Aa   ρ y y') (ox oy : Operand) :
    ∃v',(do eqGuard op t ox oy x' y';Go.binOp op t x' y').run P w=.ok v' w∧Aa ρ v v':=by
  unfold AI at h
  split at h
  · cases hx;cases hy
    rename_i k a k' b
    rw[Sem.run_bind,F1 rfl]
    simp only[Result.andThen_ok]
    split at h
    · simp only[oE]at h
      obtain⟨u,hu,h⟩:=h
      exact⟨u,by have:=Fp (w:=w) hu;simpa[Go.binOp]using this,B1 ρ h⟩
    · simp only[oE]at h
      obtain⟨u,hu,h⟩:=h
      exact⟨u,by have:=Fp (w:=w) hu;simpa[Go.binOp]using this,B1 ρ h⟩
    · obtain⟨hk,h2⟩:=AJ h
      have hkk:=FQ hk
      subst hkk
      exact ZZ h2 t w
  · cases hx;cases hy
    rename_i a b s1 h1 s2 h2
    subst h1;subst h2
    rw[Sem.run_bind,F1 rfl]
    simp only[Result.andThen_ok]
    obtain⟨v',h1,h2⟩:=aV (P:=P) (ρ:=ρ) h w
    refine⟨v',?_,h2⟩
    rw[← h1]
    cases op<;>first | rfl | (simp[UA]at h;done)
  · split at h
    · simp only[oE]at h
      obtain⟨b,hb,h⟩:=h
      injection h with h;subst h
      rw[Sem.run_bind,F1 (Mh hb hx)]
      simp only[Result.andThen_ok]
      refine⟨.bool b,?_,.bool b⟩
      have he:=ZN (w:=w) hb hx hy
      have:Go.binOp .eql t x' y'=(do pure (.bool (← Op.equal t x' y')):Sem Value):=by
        unfold eqV at hb
        split at hb<;>first | (cases hb;done) | (cases hx<;>cases hy<;>rfl)
      rw[this,Sem.run_bind,he]
      rfl
    · simp only[oE]at h
      obtain⟨b,hb,h⟩:=h
      injection h with h;subst h
      rw[Sem.run_bind,F1 (Mh hb hx)]
      simp only[Result.andThen_ok]
      refine⟨.bool (!b),?_,.bool _⟩
      have he:=ZN (w:=w) hb hx hy
      have:Go.binOp .neq t x' y'=(do pure (.bool (!(← Op.equal t x' y'))):Sem Value):=by
        unfold eqV at hb
        split at hb<;>first | (cases hb;done) | (cases hx<;>cases hy<;>rfl)
      rw[this,Sem.run_bind,he]
      rfl
    · cases h
theorem lY{op:UnOp}{x v:AV}{x':Value}(h:unA P op x=some v)(hx:Aa ρ x x'):
    ∃v',(Op.unary op x').run P w=.ok v' w∧Aa ρ v v':=by
  unfold unA at h
  split at h
  · cases hx
    rename_i k n
    split at h
    · injection h with h;subst h
      exact⟨.int k (k.wrap (0 - n)),rfl,by rw[Gy];exact .int _ _⟩
    · simp only[oE]at h
      obtain⟨u,hu,h⟩:=h
      exact⟨u,Fp hu,B1 ρ h⟩
    · cases h
  · cases hx
    split at h
    · injection h with h;subst h
      exact⟨_,rfl,.bool _⟩
    · cases h
  · cases h
theorem N3{x v:AV}{x':Value}(h:AE x=some v)(hx:Aa ρ x x')(ev:Operand→Value)(o:Oper)(y:Operand)(ho:o.op=.nilCheck y)(he:ev y=x'):
    ∃v',(execOp ev o).run P w=.ok (.value v') w∧Aa ρ v v':=by
  unfold AE at h
  split at h<;>first | (cases h;done) | skip
  injection h with h;subst h
  refine⟨x',?_,hx⟩
  cases hx<;>first | (simp only[execOp,ho,he];done) | (simp only[execOp,ho,he];rfl) | (exfalso;simp_all;done)
theorem O8{x v:AV}{i:Nat}{x':Value}(h:Rp x i=some v)(hx:Aa ρ x x'):
    ∃v',(Instr.extract x' i).run P w=.ok v' w∧Aa ρ v v':=by
  unfold Rp at h
  split at h<;>first | (cases h;done) | skip
  cases hx with
  | tuple hs =>
    rename_i cs'
    obtain⟨v',h1,h2⟩:=hs.get h
    refine⟨v',?_,h2⟩
    have:cs'[i]? = some v':=by rw[← Array.getElem?_toList];exact h1
    simp[Instr.extract,this]
theorem Pd{t:TypeId}{cs:List AV}{cs':Array Value}{off:Nat}{v:AV}(h:T4 P t cs off=some v)(hc:AU ρ cs cs'.toList):
    ∃v',(part t cs' off).run P w=.ok v' w∧Aa ρ v v':=by
  unfold T4 at h
  simp only[oE]at h
  obtain⟨g,hg,h⟩:=h
  cases g with
  | true =>
    simp only[oE]at h
    obtain⟨n,hn,h⟩:=h
    injection h with h;subst h
    refine⟨.agg (cs'.extract off (off+n)),by simp[part,KG hg,BH hn],.agg ?_⟩
    have:(cs'.extract off (off+n)).toList=(cs'.toList.drop off).take n:=by
      rw[Array.toList_extract,List.extract_eq_take_drop]
      congr 1
      omega
    rw[this]
    exact(hc.drop off).take n
  | false =>
    obtain⟨v',h1,h2⟩:=hc.get h
    refine⟨v',?_,h2⟩
    have:cs'[off]? = some v':=by rw[← Array.getElem?_toList];exact h1
    simp[part,KG hg,this]
theorem LN{x:AV}{x':Value}{k:Nat}(h:Cu x=some k)(hx:Aa ρ x x'):∃kd,x'=.int kd (k:Int):=by
  unfold Cu at h
  split at h<;>first | (cases h;done) | skip
  cases hx
  rename_i kd n
  exact⟨kd,by rw[Zr h]⟩
theorem Ua{t:TypeId}{x v:AV}{x':Value}{f:Nat}(h:SO P t x f=some v)(hx:Aa ρ x x'):
    ∃v',(Instr.field t x' f).run P w=.ok v' w∧Aa ρ v v':=by
  unfold SO at h
  split at h<;>first | (cases h;done) | skip
  split at h<;>first | (cases h;done) | skip
  rename_i fs hfs
  simp only[oE]at h
  obtain⟨fd,hfd,h⟩:=h
  cases hx with
  | agg hs =>
    obtain⟨v',h1,h2⟩:=Pd (w:=w) h hs
    exact⟨v',by simp[Instr.field,AL hfs,hfd,asAgg,h1],h2⟩
theorem Uj        {t : TypeId} {x ix v : AV} {x' ix' : Value} (h : Hk     P t x ix = some v) (hx : Aa   ρ x x') (hi : Aa   ρ ix ix') :
    ∃v',(Instr.index t x' ix').run P w=.ok v' w∧Aa ρ v v':=by
  unfold Hk at h
  simp only[oE]at h
  obtain⟨k,hk,h⟩:=h
  obtain⟨kd,rfl⟩:=LN hk hi
  split at h<;>first | (cases h;done) | skip
  · split at h<;>first | (cases h;done) | skip
    rename_i len e he
    simp only[oE]at h
    obtain⟨n,hn,h⟩:=h
    obtain⟨hlt,h⟩:=AJ h
    have hlt':k<len:=by simpa[oq]using hlt
    cases hx with
    | agg hs =>
      obtain⟨v',h1,h2⟩:=Pd (w:=w) h hs
      refine⟨v',?_,h2⟩
      have:(0:Int)≤(k:Int)∧(k:Int)<(len:Int):=by omega
      simp only[Instr.index,asIntOf,Sem.run_bind,Sem.run_pure,Result.andThen_ok,AL he,this,and_self,if_true,BH hn]
      simpa using h1
  · split at h <;> first | (cases h; done) | skip
    rename_i l _ he
    simp only[oE]at h
    obtain⟨b,hb,h⟩:=h
    injection h with h;subst h
    cases hx with
    | str hs =>
      rename_i s
      subst hs
      rw[pL]at hb
      simp only[Option.map_eq_some_iff]at hb
      obtain⟨u,hu,rfl⟩:=hb
      refine⟨.int .u8 u.toNat,?_,.int _ _⟩
      have h0:(0:Int)≤(k:Int):=by omega
      have:s[k]? = some u:=by
        rw[← hu]
        rcases oI k s.size with hlt | hge
        · rw [getElem?_pos s k hlt, oM                       (by simpa using hlt)]
          rfl
        · rw[getElem?_neg s k (by omega),oe (by simpa using hge)]
      simp[Instr.index,asIntOf,AL he,this]
end
end
end Go.Proofs.Ytilhhmkdcoajnaa.Am
