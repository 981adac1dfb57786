/- What the abstract machine computes without memory, the model computes too; conditions: none. -/
import Derived.Laws.Entries
import Derived.Laws.Slices
import Derived.Laws.Strings
import Derived.Lib.Hide
import Derived.Test.YtilhhmkdcoajnaaAmRel
set_option linter.unusedVariables false
set_option linter.unusedSimpArgs false
namespace Go.Proofs.Ytilhhmkdcoajnaa.Am
open Go
noncomputable section
theorem runP_run{α:Type}{P:Program}{w:World}:∀ {s:Sem α}{a:α},runP P s=some a→s.run P w=.ok a w:=by
  intro s
  induction s with
  | pure b=>intro a h;simp[runP]at h;subst h;rfl
  | program k ih=>intro a h;simp only[runP]at h;simp only[Sem.run];exact ih P h
  | mark m k ih=>intro a h;simp only[runP]at h;simp only[Sem.run];exact ih h
  | load=>intro a h;simp[runP]at h
  | store=>intro a h;simp[runP]at h
  | new=>intro a h;simp[runP]at h
  | shape=>intro a h;simp[runP]at h
  | freeze=>intro a h;simp[runP]at h
  | frozen=>intro a h;simp[runP]at h
  | getObj=>intro a h;simp[runP]at h
  | setObj=>intro a h;simp[runP]at h
  | choose=>intro a h;simp[runP]at h
  | sys=>intro a h;simp[runP]at h
  | halt=>intro a h;simp[runP]at h
section types
variable{P:Program}{w:World}{t:TypeId}
theorem run_under{d:TypeDesc}(h:P.underlying t=some d):(underlying t).run P w=.ok d w:=by simp[underlying,h]
theorem run_agg{g:Bool}(h:aggT P t=some g):(isAgg t).run P w=.ok g w:=by
  unfold aggT at h
  split at h
  · injection h with h;subst h;simp[isAgg,underlying, *]
  · injection h with h;subst h;simp[isAgg,underlying, *]
  · rename_i d _ _ hd
    injection h with h;subst h
    simp only[isAgg,Sem.run_bind,run_under hd,Result.andThen_ok]
    cases d<;>simp_all
  · cases h
theorem run_size{n:Nat}(h:sizeT P t=some n):(sizeOf t).run P w=.ok n w:=by
  unfold sizeT at h
  split at h
  · injection h with h;subst h;simp[sizeOf,typeInfo, *]
  · cases h
theorem run_bytes{n:Nat}(h:bytesT P t=some n):∃i,(typeInfo t).run P w=.ok i w∧i.bytes=n:=by
  unfold bytesT at h
  split at h
  · injection h with h;rename_i i hi;exact⟨i,by simp[typeInfo,hi],h⟩
  · cases h
theorem run_zero(ρ:Rho){z:AV}(h:zeroT P t=some z):∃v,(zeroValue t).run P w=.ok v w∧VRel ρ z v:=by
  unfold zeroT at h
  split at h
  · split at h
    · rename_i i hi _ v hv
      exact⟨v,by simp[zeroValue,typeInfo,hi,hv],ofValue_rel ρ h⟩
    · cases h
  · cases h
end types
theorem wrap_in{k:IntKind}{n:Int}(h:inRange k n=true):k.wrap n=n:=by
  have hb:k.min≤n∧n≤k.max:=by
    unfold inRange at h
    cases n with
    | ofNat m=>cases k<;>simp[Nat.ble_eq]at h<;>simp[IntKind.min,IntKind.max,IntKind.signed,IntKind.bits]<;>omega
    | negSucc m=>cases k<;>simp[Nat.ble_eq]at h<;>simp[IntKind.min,IntKind.max,IntKind.signed,IntKind.bits]<;>omega
  cases k<;>simp[IntKind.min,IntKind.max,IntKind.signed,IntKind.bits]at hb<;>simp only[IntKind.wrap,IntKind.signed,IntKind.bits]<;>simp<;>omega
theorem wrapA_eq(k:IntKind)(n:Int):wrapA k n=k.wrap n:=by
  unfold wrapA
  cases h:inRange k n with
  | true=>simp[wrap_in h]
  | false=>rfl
theorem ltI_eq(a b:Int):ltI a b=decide (a<b):=by
  cases a with
  | ofNat a=>cases b with
    | ofNat b=>rw[Bool.eq_iff_iff];simp only[ltI,Nat.blt_eq,decide_eq_true_iff,Int.ofNat_eq_natCast];omega
    | negSucc b=>simp only[ltI];rw[eq_comm,decide_eq_false_iff_not];simp only[Int.ofNat_eq_natCast];omega
  | negSucc a=>cases b with
    | ofNat b=>simp only[ltI];rw[eq_comm,decide_eq_true_iff];simp only[Int.ofNat_eq_natCast];omega
    | negSucc b=>rw[Bool.eq_iff_iff];simp only[ltI,Nat.blt_eq,decide_eq_true_iff];omega
theorem eqI_eq(a b:Int):eqI a b=(a == b):=by
  rw[Bool.eq_iff_iff,beq_iff_eq]
  cases a with
  | ofNat a=>cases b with
    | ofNat b=>simp only[eqI,Nat.beq_eq,Int.ofNat_eq_natCast];omega
    | negSucc b=>simp[eqI]
  | negSucc a=>cases b with
    | ofNat b=>simp[eqI]
    | negSucc b=>simp only[eqI,Nat.beq_eq];omega
theorem sameKind_eq{k k':IntKind}(h:sameKind k k'=true):k=k':=by cases k<;>cases k'<;>first | rfl | cases h
theorem natOf_eq{n:Int}{m:Nat}(h:natOf n=some m):n=(m:Int):=by cases n<;>simp[natOf]at h;subst h;rfl
theorem intOp_ok{P:Program}{ρ:Rho}{op:BinOp}{k:IntKind}{a b:Int}{v:AV}(h:intOp P op k a b=some v)(t:TypeId)(w:World):
    ∃v',(Go.binOp op t (.int k a) (.int k b)).run P w=.ok v' w∧VRel ρ v v':=by
  unfold intOp at h
  split at h
  case h_1=>injection h with h;subst h;exact⟨.int k (k.wrap (a+b)),by simp[Go.binOp,Op.intArith],by rw[wrapA_eq];exact .int _ _⟩
  case h_2=>injection h with h;subst h;exact⟨.int k (k.wrap (a - b)),by simp[Go.binOp,Op.intArith],by rw[wrapA_eq];exact .int _ _⟩
  case h_3=>injection h with h;subst h;exact⟨.int k (k.wrap (a * b)),by simp[Go.binOp,Op.intArith],by rw[wrapA_eq];exact .int _ _⟩
  case h_4=>injection h with h;subst h;exact⟨.bool (a == b),by simp[Go.binOp,Op.intCmp],by rw[eqI_eq];exact .bool _⟩
  case h_5=>injection h with h;subst h;exact⟨.bool (a != b),by simp[Go.binOp,Op.intCmp],by rw[eqI_eq];exact .bool _⟩
  case h_6=>injection h with h;subst h;exact⟨.bool (a<b),by simp[Go.binOp,Op.intCmp],by rw[ltI_eq];exact .bool _⟩
  case h_7=>injection h with h;subst h;exact⟨.bool (a≤b),by simp[Go.binOp,Op.intCmp],by rw[ltI_eq,show(!decide (b<a))=decide (a≤b)from by rw[Bool.eq_iff_iff];simp];exact .bool _⟩
  case h_8=>injection h with h;subst h;exact⟨.bool (a > b),by simp[Go.binOp,Op.intCmp],by rw[ltI_eq];exact .bool _⟩
  case h_9=>injection h with h;subst h;exact⟨.bool (a≥b),by simp[Go.binOp,Op.intCmp],by rw[ltI_eq,show(!decide (a<b))=decide (a≥b)from by rw[Bool.eq_iff_iff];simp];exact .bool _⟩
  case h_10 =>
    simp only[Option.bind_eq_some_iff]at h
    obtain⟨u,hu,h⟩:=h
    exact⟨u,by have:=runP_run (w:=w) hu;simpa[Go.binOp]using this,ofValue_rel ρ h⟩
  case h_11 =>
    simp only[Option.bind_eq_some_iff]at h
    obtain⟨u,hu,h⟩:=h
    exact⟨u,by have:=runP_run (w:=w) hu;simpa[Go.binOp]using this,ofValue_rel ρ h⟩
  case h_12=>cases h
  case h_13=>cases h
  case h_14 =>
    simp only[Option.bind_eq_some_iff]at h
    obtain⟨u,hu,h⟩:=h
    refine⟨u,?_,ofValue_rel ρ h⟩
    have:=runP_run (w:=w) hu
    rename_i n1 n2 n3 n4 n5 n6 n7 n8 n9 n10 n11 n12 n13
    cases op<;>first | (exfalso;simp at *;done) | simpa[Go.binOp]using this
abbrev nats(l:List UInt8):List Nat:=l.map (fun(b:UInt8)=>b.toNat)
theorem toNat_inj{a b:UInt8}(h:a.toNat=b.toNat):a=b:=UInt8.toNat_inj.1 h
theorem strEq_nats:∀ (x y:List UInt8),strEq (nats x) (nats y)=(x == y)
  | [],[]=>rfl
  | [],_::_=>rfl
  | _::_,[]=>rfl
  | a::x,b::y=>by
    simp only[nats,List.map_cons,strEq]
    by_cases e:a=b
    · subst e
      have:Nat.beq a.toNat a.toNat=true:=by simp[Nat.beq_eq]
      rw[this]
      have ih:=strEq_nats x y
      simp only[nats]at ih
      simp[ih]
    · have:Nat.beq a.toNat b.toNat=false:=Tree.beq_no (fun h=>e (toNat_inj h))
      rw[this]
      simp[e]
theorem strLt_nats:∀ (x y:List UInt8),strLt (nats x) (nats y)=Op.bytesLess x y
  | [],[]=>rfl
  | [],_::_=>rfl
  | _::_,[]=>rfl
  | a::x,b::y=>by
    simp only[nats,List.map_cons,strLt,Op.bytesLess]
    have ih:=strLt_nats x y
    simp only[nats]at ih
    have h1:Nat.blt a.toNat b.toNat=decide (a<b):=by rw[Bool.eq_iff_iff];simp[Nat.blt_eq,UInt8.lt_iff_toNat_lt]
    have h2:Nat.beq a.toNat b.toNat=(a == b):=by
      rw[Bool.eq_iff_iff,beq_iff_eq,Nat.beq_eq]
      exact⟨fun h=>toNat_inj h,fun h=>by rw[h]⟩
    rw[h1,h2,ih]
    cases decide (a<b)<;>cases (a == b)<;>rfl
theorem size_nats(s:ByteArray):(nats s.data.toList).length=s.size:=by simp[nats]
theorem strOp_ok{P:Program}{ρ:Rho}{op:BinOp}{x y:ByteArray}{v:AV}(h:strOp op (nats x.data.toList) (nats y.data.toList)=some v)(w:World):
    ∃v',(Op.stringOp op x y).run P w=.ok v' w∧VRel ρ v v':=by
  unfold strOp at h
  rw[strEq_nats,strLt_nats,size_nats,size_nats]at h
  unfold Op.stringOp
  rw[ByteArray.toList_eq,ByteArray.toList_eq]
  split at h
  case h_1 =>
    obtain⟨hb,h⟩:=guardB_some h
    injection h with h;subst h
    have hb':x.size+y.size≤1152921504606846976:=by simpa[Nat.ble_eq]using hb
    refine⟨.string (x++y),?_,.str (by simp[nats])⟩
    have:¬ ((x.size+y.size:Nat):Int) > IntKind.i64.max:=by simp[IntKind.max,IntKind.signed,IntKind.bits];omega
    simp only[this,if_false]
    rfl
  case h_2=>injection h with h;subst h;exact⟨_,rfl,.bool _⟩
  case h_3=>injection h with h;subst h;exact⟨_,rfl,.bool _⟩
  case h_4=>injection h with h;subst h;exact⟨_,rfl,.bool _⟩
  case h_5=>injection h with h;subst h;exact⟨_,rfl,.bool _⟩
  case h_6=>injection h with h;subst h;exact⟨_,rfl,.bool _⟩
  case h_7=>injection h with h;subst h;exact⟨_,rfl,.bool _⟩
  case h_8=>cases h
section
variable{P:Program}{ρ:Rho}{w:World}
theorem isPtrT_some{t:TypeId}(h:isPtrT P t=true):∃e,P.underlying t=some (.pointer e):=by
  unfold isPtrT at h;split at h
  · rename_i e he;exact⟨e,he⟩
  · cases h
theorem isSliceT_some{t:TypeId}(h:isSliceT P t=true):∃e,P.underlying t=some (.slice e):=by
  unfold isSliceT at h;split at h
  · rename_i e he;exact⟨e,he⟩
  · cases h
theorem isMapT_some{t:TypeId}(h:isMapT P t=true):∃k e,P.underlying t=some (.map k e):=by
  unfold isMapT at h;split at h
  · rename_i k e he;exact⟨k,e,he⟩
  · cases h
theorem isFuncT_some{t:TypeId}(h:isFuncT P t=true):∃a b c,P.underlying t=some (.func a b c):=by
  unfold isFuncT at h;split at h
  · rename_i a b c he;exact⟨a,b,c,he⟩
  · cases h
theorem isBoolT_some{t:TypeId}(h:isBoolT P t=true):P.underlying t=some .bool:=by
  unfold isBoolT at h;split at h
  · rename_i he;exact he
  · cases h
set_option maxHeartbeats 1000000 in
theorem eqV_in{t:TypeId}{x y:AV}{x' y':Value}{b:Bool}(h:eqV P t x y=some b)(hx:VRel ρ x x')(hy:VRel ρ y y')(d:Nat):
    (Op.equalIn (d+1) t x' y').run P w=.ok b w:=by
  unfold eqV at h
  split at h
  all_goals first | (cases h;done) | skip
  · obtain⟨ht,h⟩:=guardB_some h
    injection h with h;subst h
    cases hx;cases hy
    simp[Op.equalIn,run_under (isBoolT_some ht)]
  · obtain⟨ht,h⟩:=guardB_some h
    injection h with h;subst h
    obtain⟨e,ht⟩:=isPtrT_some ht
    cases hx;cases hy<;>simp[Op.equalIn,run_under ht]
  · obtain⟨ht,h⟩:=guardB_some h
    injection h with h;subst h
    obtain⟨e,ht⟩:=isPtrT_some ht
    cases hy;cases hx<;>simp[Op.equalIn,run_under ht]
  · obtain⟨ht,h⟩:=guardB_some h
    injection h with h;subst h
    obtain⟨e,ht⟩:=isSliceT_some ht
    cases hx;cases hy<;>simp[Op.equalIn,run_under ht]
  · obtain⟨ht,h⟩:=guardB_some h
    injection h with h;subst h
    obtain⟨e,ht⟩:=isSliceT_some ht
    cases hy;cases hx<;>simp[Op.equalIn,run_under ht]
  · obtain⟨ht,h⟩:=guardB_some h
    injection h with h;subst h
    obtain⟨k,e,ht⟩:=isMapT_some ht
    cases hx;cases hy<;>simp[Op.equalIn,run_under ht]
  · obtain⟨ht,h⟩:=guardB_some h
    injection h with h;subst h
    obtain⟨k,e,ht⟩:=isMapT_some ht
    cases hy;cases hx<;>simp[Op.equalIn,run_under ht]
  · obtain⟨ht,h⟩:=guardB_some h
    injection h with h;subst h
    obtain⟨a,b,c,ht⟩:=isFuncT_some ht
    cases hy;cases hx;simp[Op.equalIn,run_under ht]
  · obtain⟨ht,h⟩:=guardB_some h
    injection h with h;subst h
    obtain⟨a,b,c,ht⟩:=isFuncT_some ht
    cases hy;cases hx;simp[Op.equalIn,run_under ht]
  · obtain⟨ht,h⟩:=guardB_some h
    injection h with h;subst h
    obtain⟨a,b,c,ht⟩:=isFuncT_some ht
    cases hy;cases hx;simp[Op.equalIn,run_under ht]
theorem eqV_ok{t:TypeId}{x y:AV}{x' y':Value}{b:Bool}(h:eqV P t x y=some b)(hx:VRel ρ x x')(hy:VRel ρ y y'):
    (Op.equal t x' y').run P w=.ok b w:=eqV_in h hx hy 9999
def plainV:Value→Bool
  | .nilIface | .agg _=>false
  | _=>true
theorem eqGuard_ok{x':Value}(h:plainV x'=true)(op:BinOp)(t:TypeId)(ox oy:Operand)(y':Value):
    (eqGuard op t ox oy x' y').run P w=.ok () w:=by
  cases x'<;>first | (cases h;done) | (cases op<;>rfl)
theorem eqV_plain{t:TypeId}{x y:AV}{x':Value}{b:Bool}(h:eqV P t x y=some b)(hx:VRel ρ x x'):plainV x'=true:=by
  unfold eqV at h
  split at h<;>first | (cases h;done) | (cases hx<;>rfl)
theorem binA_ok {op : BinOp} {t : TypeId} {x y v : AV} {x' y' : Value} (h : binA P op t x y = some v) (hx : VRel ρ x x') (hy : VRel ρ y y') (ox oy : Operand) :
    ∃v',(do eqGuard op t ox oy x' y';Go.binOp op t x' y').run P w=.ok v' w∧VRel ρ v v':=by
  unfold binA at h
  split at h
  · cases hx;cases hy
    rename_i k a k' b
    rw[Sem.run_bind,eqGuard_ok rfl]
    simp only[Result.andThen_ok]
    split at h
    · simp only[Option.bind_eq_some_iff]at h
      obtain⟨u,hu,h⟩:=h
      exact⟨u,by have:=runP_run (w:=w) hu;simpa[Go.binOp]using this,ofValue_rel ρ h⟩
    · simp only[Option.bind_eq_some_iff]at h
      obtain⟨u,hu,h⟩:=h
      exact⟨u,by have:=runP_run (w:=w) hu;simpa[Go.binOp]using this,ofValue_rel ρ h⟩
    · obtain⟨hk,h2⟩:=guardB_some h
      have hkk:=sameKind_eq hk
      subst hkk
      exact intOp_ok h2 t w
  · cases hx;cases hy
    rename_i a b s1 h1 s2 h2
    subst h1;subst h2
    rw[Sem.run_bind,eqGuard_ok rfl]
    simp only[Result.andThen_ok]
    obtain⟨v',h1,h2⟩:=strOp_ok (P:=P) (ρ:=ρ) h w
    refine⟨v',?_,h2⟩
    rw[← h1]
    cases op<;>first | rfl | (simp[strOp]at h;done)
  · split at h
    · simp only[Option.bind_eq_some_iff]at h
      obtain⟨b,hb,h⟩:=h
      injection h with h;subst h
      rw[Sem.run_bind,eqGuard_ok (eqV_plain hb hx)]
      simp only[Result.andThen_ok]
      refine⟨.bool b,?_,.bool b⟩
      have he:=eqV_ok (w:=w) hb hx hy
      have:Go.binOp .eql t x' y'=(do pure (.bool (← Op.equal t x' y')):Sem Value):=by
        unfold eqV at hb
        split at hb<;>first | (cases hb;done) | (cases hx<;>cases hy<;>rfl)
      rw[this,Sem.run_bind,he]
      rfl
    · simp only[Option.bind_eq_some_iff]at h
      obtain⟨b,hb,h⟩:=h
      injection h with h;subst h
      rw[Sem.run_bind,eqGuard_ok (eqV_plain hb hx)]
      simp only[Result.andThen_ok]
      refine⟨.bool (!b),?_,.bool _⟩
      have he:=eqV_ok (w:=w) hb hx hy
      have:Go.binOp .neq t x' y'=(do pure (.bool (!(← Op.equal t x' y'))):Sem Value):=by
        unfold eqV at hb
        split at hb<;>first | (cases hb;done) | (cases hx<;>cases hy<;>rfl)
      rw[this,Sem.run_bind,he]
      rfl
    · cases h
theorem unA_ok{op:UnOp}{x v:AV}{x':Value}(h:unA P op x=some v)(hx:VRel ρ x x'):
    ∃v',(Op.unary op x').run P w=.ok v' w∧VRel ρ v v':=by
  unfold unA at h
  split at h
  · cases hx
    rename_i k n
    split at h
    · injection h with h;subst h
      exact⟨.int k (k.wrap (0 - n)),rfl,by rw[wrapA_eq];exact .int _ _⟩
    · simp only[Option.bind_eq_some_iff]at h
      obtain⟨u,hu,h⟩:=h
      exact⟨u,runP_run hu,ofValue_rel ρ h⟩
    · cases h
  · cases hx
    split at h
    · injection h with h;subst h
      exact⟨_,rfl,.bool _⟩
    · cases h
  · cases h
theorem nilCheckA_ok{x v:AV}{x':Value}(h:nilCheckA x=some v)(hx:VRel ρ x x')(ev:Operand→Value)(o:Oper)(y:Operand)(ho:o.op=.nilCheck y)(he:ev y=x'):
    ∃v',(execOp ev o).run P w=.ok (.value v') w∧VRel ρ v v':=by
  unfold nilCheckA at h
  split at h<;>first | (cases h;done) | skip
  injection h with h;subst h
  refine⟨x',?_,hx⟩
  cases hx<;>first | (simp only[execOp,ho,he];done) | (simp only[execOp,ho,he];rfl) | (exfalso;simp_all;done)
theorem extractA_ok{x v:AV}{i:Nat}{x':Value}(h:Rp x i=some v)(hx:VRel ρ x x'):
    ∃v',(Instr.extract x' i).run P w=.ok v' w∧VRel ρ v v':=by
  unfold Rp at h
  split at h<;>first | (cases h;done) | skip
  cases hx with
  | tuple hs =>
    rename_i cs'
    obtain⟨v',h1,h2⟩:=hs.get h
    refine⟨v',?_,h2⟩
    have:cs'[i]? = some v':=by rw[← Array.getElem?_toList];exact h1
    simp[Instr.extract,this]
theorem partA_ok{t:TypeId}{cs:List AV}{cs':Array Value}{off:Nat}{v:AV}(h:partA P t cs off=some v)(hc:VRels ρ cs cs'.toList):
    ∃v',(part t cs' off).run P w=.ok v' w∧VRel ρ v v':=by
  unfold partA at h
  simp only[Option.bind_eq_some_iff]at h
  obtain⟨g,hg,h⟩:=h
  cases g with
  | true =>
    simp only[Option.bind_eq_some_iff]at h
    obtain⟨n,hn,h⟩:=h
    injection h with h;subst h
    refine⟨.agg (cs'.extract off (off+n)),by simp[part,run_agg hg,run_size hn],.agg ?_⟩
    have:(cs'.extract off (off+n)).toList=(cs'.toList.drop off).take n:=by
      rw[Array.toList_extract,List.extract_eq_take_drop]
      congr 1
      omega
    rw[this]
    exact(hc.drop off).take n
  | false =>
    obtain⟨v',h1,h2⟩:=hc.get h
    refine⟨v',?_,h2⟩
    have:cs'[off]? = some v':=by rw[← Array.getElem?_toList];exact h1
    simp[part,run_agg hg,this]
theorem idxOf_ok{x:AV}{x':Value}{k:Nat}(h:idxOf x=some k)(hx:VRel ρ x x'):∃kd,x'=.int kd (k:Int):=by
  unfold idxOf at h
  split at h<;>first | (cases h;done) | skip
  cases hx
  rename_i kd n
  exact⟨kd,by rw[natOf_eq h]⟩
theorem fieldA_ok{t:TypeId}{x v:AV}{x':Value}{f:Nat}(h:fieldA P t x f=some v)(hx:VRel ρ x x'):
    ∃v',(Instr.field t x' f).run P w=.ok v' w∧VRel ρ v v':=by
  unfold fieldA at h
  split at h<;>first | (cases h;done) | skip
  split at h<;>first | (cases h;done) | skip
  rename_i fs hfs
  simp only[Option.bind_eq_some_iff]at h
  obtain⟨fd,hfd,h⟩:=h
  cases hx with
  | agg hs =>
    obtain⟨v',h1,h2⟩:=partA_ok (w:=w) h hs
    exact⟨v',by simp[Instr.field,run_under hfs,hfd,asAgg,h1],h2⟩
theorem indexA_ok {t : TypeId} {x ix v : AV} {x' ix' : Value} (h : indexA P t x ix = some v) (hx : VRel ρ x x') (hi : VRel ρ ix ix') :
    ∃v',(Instr.index t x' ix').run P w=.ok v' w∧VRel ρ v v':=by
  unfold indexA at h
  simp only[Option.bind_eq_some_iff]at h
  obtain⟨k,hk,h⟩:=h
  obtain⟨kd,rfl⟩:=idxOf_ok hk hi
  split at h<;>first | (cases h;done) | skip
  · split at h<;>first | (cases h;done) | skip
    rename_i len e he
    simp only[Option.bind_eq_some_iff]at h
    obtain⟨n,hn,h⟩:=h
    obtain⟨hlt,h⟩:=guardB_some h
    have hlt':k<len:=by simpa[Nat.blt_eq]using hlt
    cases hx with
    | agg hs =>
      obtain⟨v',h1,h2⟩:=partA_ok (w:=w) h hs
      refine⟨v',?_,h2⟩
      have:(0:Int)≤(k:Int)∧(k:Int)<(len:Int):=by omega
      simp only[Instr.index,asIntOf,Sem.run_bind,Sem.run_pure,Result.andThen_ok,run_under he,this,and_self,if_true,run_size hn]
      simpa using h1
  · split at h <;> first | (cases h; done) | skip
    rename_i l _ he
    simp only[Option.bind_eq_some_iff]at h
    obtain⟨b,hb,h⟩:=h
    injection h with h;subst h
    cases hx with
    | str hs =>
      rename_i s
      subst hs
      rw[List.getElem?_map]at hb
      simp only[Option.map_eq_some_iff]at hb
      obtain⟨u,hu,rfl⟩:=hb
      refine⟨.int .u8 u.toNat,?_,.int _ _⟩
      have h0:(0:Int)≤(k:Int):=by omega
      have:s[k]? = some u:=by
        rw[← hu]
        rcases Nat.lt_or_ge k s.size with hlt | hge
        · rw [getElem?_pos s k hlt, List.getElem?_eq_getElem (by simpa using hlt)]
          rfl
        · rw[getElem?_neg s k (by omega),List.getElem?_eq_none (by simpa using hge)]
      simp[Instr.index,asIntOf,run_under he,this]
end
end
end Go.Proofs.Ytilhhmkdcoajnaa.Am
