/- What the abstract machine's memory holds: cells behind a slice, slices that grow; what reads, writes, appends do to them; conditions: none. -/
import Derived.Test.YtilhhmkdcoajnaaAmWp
import Derived.Test.YtilhhmkdcoajnaaAmVal
set_option linter.unusedVariables false
set_option linter.unusedSimpArgs false
namespace Go.Proofs.Ytilhhmkdcoajnaa.Am
open Go
noncomputable section
abbrev iv(n:Int):AV:=.int .i64 n
def i64(n:Int):Prop:=-9223372036854775808≤n∧n<9223372036854775808
theorem wrapA_of{k:IntKind}{n:Int}(h:inRange k n=true):wrapA k n=n:=by unfold wrapA;rw[h];rfl
theorem inRange_i64{n:Int}(h:i64 n):inRange .i64 n=true:=by
  obtain⟨h1,h2⟩:=h
  cases n with
  | ofNat m=>simp only[inRange,Nat.ble_eq];simp at h2;omega
  | negSucc m=>simp only[inRange,Nat.ble_eq];omega
theorem wrap_i64{n:Int}(h:i64 n):wrapA .i64 n=n:=wrapA_of (inRange_i64 h)
section
variable(P:Program)(t:TypeId)(a b:Int)
theorem Rq:binA P .lss t (iv a) (iv b)=some (.bool (decide (a<b))):=by
  show some (AV.bool (ltI a b))=_
  rw[ltI_eq]
theorem Rs:binA P .gtr t (iv a) (iv b)=some (.bool (decide (b<a))):=by
  show some (AV.bool (ltI b a))=_
  rw[ltI_eq]
theorem Rt:binA P .leq t (iv a) (iv b)=some (.bool (decide (a≤b))):=by
  show some (AV.bool (!ltI b a))=_
  rw[ltI_eq,← decide_not]
  congr 3
  exact propext Int.not_lt
theorem Ru:binA P .geq t (iv a) (iv b)=some (.bool (decide (b≤a))):=by
  show some (AV.bool (!ltI a b))=_
  rw[ltI_eq,← decide_not]
  congr 3
  exact propext Int.not_lt
theorem Rv:binA P .eql t (iv a) (iv b)=some (.bool (decide (a=b))):=by
  show some (AV.bool (eqI a b))=_
  rw[eqI_eq];rfl
theorem Rw:binA P .neq t (iv a) (iv b)=some (.bool (decide (a≠b))):=by
  show some (AV.bool (!eqI a b))=_
  rw[eqI_eq,decide_not];rfl
theorem bin_add(h:i64 (a+b)):binA P .add t (iv a) (iv b)=some (iv (a+b)):=by
  show some (AV.int .i64 (wrapA .i64 (a+b)))=_
  rw[wrap_i64 h]
theorem bin_sub(h:i64 (a - b)):binA P .sub t (iv a) (iv b)=some (iv (a - b)):=by
  show some (AV.int .i64 (wrapA .i64 (a - b)))=_
  rw[wrap_i64 h]
theorem bin_mul(h:i64 (a * b)):binA P .mul t (iv a) (iv b)=some (iv (a * b)):=by
  show some (AV.int .i64 (wrapA .i64 (a * b)))=_
  rw[wrap_i64 h]
theorem un_neg(h:i64 (-a)):unA P .neg (iv a)=some (iv (-a)):=by
  show some (AV.int .i64 (wrapA .i64 (0 - a)))=_
  rw[show(0:Int) - a=-a from by omega,wrap_i64 h]
theorem un_neg_least:unA P .neg (iv (-9223372036854775808))=some (iv (-9223372036854775808)):=rfl
theorem Rx(c:Bool):unA P .not (.bool c)=some (.bool (!c)):=rfl
end
def Old(b:Nat)(s s':ASt):Prop:=s.next≤s'.next∧∀i,i<b→s'.heap.get i=s.heap.get i
theorem Old.refl(b:Nat)(s:ASt):Old b s s:=⟨Nat.le_refl _,fun _ _=>rfl⟩
theorem Old.trans{b:Nat}{s s1 s2:ASt}(h:Old b s s1)(k:Old b s1 s2):Old b s s2:=⟨Nat.le_trans h.1 k.1,fun i hi=>(k.2 i hi).trans (h.2 i hi)⟩
theorem Old.mono{b b':Nat}{s s1:ASt}(h:Old b s s1)(k:b'≤b):Old b' s s1:=⟨h.1,fun i hi=>h.2 i (Nat.lt_of_lt_of_le hi k)⟩
theorem heap_new(s:ASt)(o:AObj)(j:Nat):(newObj s o).heap.get j=if j=s.next then some o else s.heap.get j:=Tree.get_set _ _ _ _
theorem heap_set(s:ASt)(i:Nat)(o:AObj)(j:Nat):(setObj s i o).heap.get j=if j=i then some o else s.heap.get j:=Tree.get_set _ _ _ _
theorem heap_del(s:ASt)(i j:Nat):(delObj s i).heap.get j=if j=i then none else s.heap.get j:=Tree.get_del _ _ _
theorem Old.new(s:ASt)(o:AObj):Old s.next s (newObj s o):=⟨Nat.le_succ _,fun i hi=>by rw[heap_new,if_neg (by omega)]⟩
theorem load1_eq{s s':ASt}{i o:Nat}(h:s'.heap.get i=s.heap.get i):load1 s' i o=load1 s i o:=by unfold load1 rowAt;rw[h]
theorem load1_row{s:ASt}{i o:Nat}{r:ARow}{u:AV}(h:s.heap.get i=some (.row r))(ho:o<r.n)(hc:r.c.get o=some u):load1 s i o=some u:=by
  have hb:Nat.blt o r.n=true:=by simpa[Nat.blt_eq]using ho
  simp[load1,rowAt,h,guardB,hb,hc]
def CellsAt(b:Nat)(s:ASt)(a:Option (Nat×Nat))(cs:List AV):Prop:=∀k u,cs[k]? = some u→∃i o,a=some (i,o)∧i<b∧load1 s i (o+k)=some u
theorem CellsAt.old{b b':Nat}{s s':ASt}{a:Option (Nat×Nat)}{cs:List AV}(h:CellsAt b s a cs)(k:Old b' s s')(hb:b≤b'):CellsAt b s' a cs:=fun j u hj=>by
  obtain⟨i,o,h1,h2,h3⟩:=h j u hj
  exact⟨i,o,h1,h2,by rw[load1_eq (k.2 i (Nat.lt_of_lt_of_le h2 hb))];exact h3⟩
theorem CellsAt.mono{b b':Nat}{s:ASt}{a:Option (Nat×Nat)}{cs:List AV}(h:CellsAt b s a cs)(hb:b≤b'):CellsAt b' s a cs:=fun j u hj=>by
  obtain⟨i,o,h1,h2,h3⟩:=h j u hj
  exact⟨i,o,h1,Nat.lt_of_lt_of_le h2 hb,h3⟩
theorem CellsAt.nil{b:Nat}{s:ASt}{a:Option (Nat×Nat)}:CellsAt b s a []:=fun k u h=>by simp at h
def SliceAt(b:Nat)(s:ASt)(v:AV)(cs:List AV):Prop:=∃a cap,v=.slice a cs.length cap∧CellsAt b s a cs
theorem SliceAt.old{b b':Nat}{s s':ASt}{v:AV}{cs:List AV}(h:SliceAt b s v cs)(k:Old b' s s')(hb:b≤b'):SliceAt b s' v cs:=by
  obtain⟨a,cap,h1,h2⟩:=h
  exact⟨a,cap,h1,h2.old k hb⟩
theorem SliceAt.mono{b b':Nat}{s:ASt}{v:AV}{cs:List AV}(h:SliceAt b s v cs)(hb:b≤b'):SliceAt b' s v cs:=by
  obtain⟨a,cap,h1,h2⟩:=h
  exact⟨a,cap,h1,h2.mono hb⟩
theorem natOf_nat(k:Nat):natOf (k:Int)=some k:=rfl
theorem idx_slice{P:Program}{t e:TypeId}{n:Nat}(ht:P.underlying t=some (.slice e))(hs:sizeT P e=some n){i o len k:Nat}{cap:Option Nat}(hk:k<len):
    indexAddrA P t (.slice (some (i,o)) len cap) (iv (k:Int))=some (.ptr (some (i,o+k * n))):=by
  have hb:Nat.blt k len=true:=by simpa[Nat.blt_eq]using hk
  simp[indexAddrA,idxOf,natOf_nat,ht,hs,guardB,hb]
theorem load_one{P:Program}{t:TypeId}(h:aggT P t=some false){s:ASt}{i o:Nat}{u:AV}(hl:load1 s i o=some u):loadV P s t (.ptr (some (i,o)))=some u:=by
  simp[loadV,h,hl]
theorem len_slice{P:Program}{t e:TypeId}(ht:P.underlying t=some (.slice e)){s:ASt}{a:Option (Nat×Nat)}{n:Nat}{cap:Option Nat}:lenA P s t (.slice a n cap)=some (iv (n:Int)):=by
  simp[lenA,ht]
end
end Go.Proofs.Ytilhhmkdcoajnaa.Am
