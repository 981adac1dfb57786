/- What the abstract machine's memory holds: cells behind a slice, slices that grow; what reads, writes, appends do to them; conditions: none. -/
import Derived.Test.YtilhhmkdcoajnaaAmWp
import Derived.Test.YtilhhmkdcoajnaaAmVal
set_option linter.unusedVariables false
set_option linter.unusedSimpArgs false
namespace Go.Proofs.Ytilhhmkdcoajnaa.Am
open Go
noncomputable section
abbrev iv(n:Int):AV:=.int .i64 n
def i64(n:Int):Prop:=-9223372036854775808≤n∧n<9223372036854775808
theorem L7{k:IntKind}{n:Int}(h:B0 k n=true):Du k n=n:=by unfold Du;rw[h];rfl
theorem PF{n:Int}(h:i64 n):B0 .i64 n=true:=by
  obtain⟨h1,h2⟩:=h
  cases n with
  | ofNat m=>simp only[B0,oQ];simp at h2;omega
  | negSucc m=>simp only[B0,oQ];omega
theorem FD{n:Int}(h:i64 n):Du .i64 n=n:=L7 (PF h)
section
variable(P:Program)(t:TypeId)(a b:Int)
theorem Rq:AI P .lss t (iv a) (iv b)=some (.bool (decide (a<b))):=by
  show some (AV.bool (ltI a b))=_
  rw[D4]
theorem Rs:AI P .gtr t (iv a) (iv b)=some (.bool (decide (b<a))):=by
  show some (AV.bool (ltI b a))=_
  rw[D4]
theorem Rt:AI P .leq t (iv a) (iv b)=some (.bool (decide (a≤b))):=by
  show some (AV.bool (!ltI b a))=_
  rw[D4,← decide_not]
  congr 3
  exact propext Int.not_lt
theorem Ru:AI P .geq t (iv a) (iv b)=some (.bool (decide (b≤a))):=by
  show some (AV.bool (!ltI a b))=_
  rw[D4,← decide_not]
  congr 3
  exact propext Int.not_lt
theorem Rv:AI P .eql t (iv a) (iv b)=some (.bool (decide (a=b))):=by
  show some (AV.bool (eqI a b))=_
  rw[F2];rfl
theorem Rw:AI P .neq t (iv a) (iv b)=some (.bool (decide (a≠b))):=by
  show some (AV.bool (!eqI a b))=_
  rw[F2,decide_not];rfl
theorem Aq(h:i64 (a+b)):AI P .add t (iv a) (iv b)=some (iv (a+b)):=by
  show some (AV.int .i64 (Du .i64 (a+b)))=_
  rw[FD h]
theorem CD(h:i64 (a - b)):AI P .sub t (iv a) (iv b)=some (iv (a - b)):=by
  show some (AV.int .i64 (Du .i64 (a - b)))=_
  rw[FD h]
theorem NN(h:i64 (a * b)):AI P .mul t (iv a) (iv b)=some (iv (a * b)):=by
  show some (AV.int .i64 (Du .i64 (a * b)))=_
  rw[FD h]
theorem EY(h:i64 (-a)):unA P .neg (iv a)=some (iv (-a)):=by
  show some (AV.int .i64 (Du .i64 (0 - a)))=_
  rw[show(0:Int) - a=-a from by omega,FD h]
theorem OL:unA P .neg (iv (-9223372036854775808))=some (iv (-9223372036854775808)):=rfl
theorem Rx(c:Bool):unA P .not (.bool c)=some (.bool (!c)):=rfl
end
def Old(b:Nat)(s s':ASt):Prop:=s.next≤s'.next∧∀i,i<b→s'.heap.get i=s.heap.get i
theorem Old.refl(b:Nat)(s:ASt):Old b s s:=⟨oD _,fun _ _=>rfl⟩
theorem Old.trans{b:Nat}{s s1 s2:ASt}(h:Old b s s1)(k:Old b s1 s2):Old b s s2:=⟨oS h.1 k.1,fun i hi=>(k.2 i hi).trans (h.2 i hi)⟩
theorem Old.mono{b b':Nat}{s s1:ASt}(h:Old b s s1)(k:b'≤b):Old b' s s1:=⟨h.1,fun i hi=>h.2 i (oh hi k)⟩
theorem AO(s:ASt)(o:Cv)(j:Nat):(AH s o).heap.get j=if j=s.next then some o else s.heap.get j:=Aj.get_set _ _ _ _
theorem Ai(s:ASt)(i:Nat)(o:Cv)(j:Nat):(setObj s i o).heap.get j=if j=i then some o else s.heap.get j:=Aj.get_set _ _ _ _
theorem Bi(s:ASt)(i j:Nat):(Bc s i).heap.get j=if j=i then none else s.heap.get j:=Aj.get_del _ _ _
theorem Old.new(s:ASt)(o:Cv):Old s.next s (AH s o):=⟨Nat.le_succ _,fun i hi=>by rw[AO,if_neg (by omega)]⟩
theorem CE{s s':ASt}{i o:Nat}(h:s'.heap.get i=s.heap.get i):load1 s' i o=load1 s i o:=by unfold load1 BA;rw[h]
theorem BW{s:ASt}{i o:Nat}{r:EF}{u:AV}(h:s.heap.get i=some (.row r))(ho:o<r.n)(hc:r.c.get o=some u):load1 s i o=some u:=by
  have hb:Nat.blt o r.n=true:=by simpa[oq]using ho
  simp[load1,BA,h,AF,hb,hc]
def A8(b:Nat)(s:ASt)(a:Option (Nat×Nat))(cs:List AV):Prop:=∀k u,cs[k]? = some u→∃i o,a=some (i,o)∧i<b∧load1 s i (o+k)=some u
theorem A8.old{b b':Nat}{s s':ASt}{a:Option (Nat×Nat)}{cs:List AV}(h:A8 b s a cs)(k:Old b' s s')(hb:b≤b'):A8 b s' a cs:=fun j u hj=>by
  obtain⟨i,o,h1,h2,h3⟩:=h j u hj
  exact⟨i,o,h1,h2,by rw[CE (k.2 i (oh h2 hb))];exact h3⟩
theorem A8.mono{b b':Nat}{s:ASt}{a:Option (Nat×Nat)}{cs:List AV}(h:A8 b s a cs)(hb:b≤b'):A8 b' s a cs:=fun j u hj=>by
  obtain⟨i,o,h1,h2,h3⟩:=h j u hj
  exact⟨i,o,h1,oh h2 hb,h3⟩
theorem A8.nil{b:Nat}{s:ASt}{a:Option (Nat×Nat)}:A8 b s a []:=fun k u h=>by simp at h
def AM(b:Nat)(s:ASt)(v:AV)(cs:List AV):Prop:=∃a cap,v=.slice a cs.length cap∧A8 b s a cs
theorem AM.old{b b':Nat}{s s':ASt}{v:AV}{cs:List AV}(h:AM b s v cs)(k:Old b' s s')(hb:b≤b'):AM b s' v cs:=by
  obtain⟨a,cap,h1,h2⟩:=h
  exact⟨a,cap,h1,h2.old k hb⟩
theorem AM.mono{b b':Nat}{s:ASt}{v:AV}{cs:List AV}(h:AM b s v cs)(hb:b≤b'):AM b' s v cs:=by
  obtain⟨a,cap,h1,h2⟩:=h
  exact⟨a,cap,h1,h2.mono hb⟩
theorem BX(k:Nat):Ms (k:Int)=some k:=rfl
theorem Aw{P:Program}{t e:TypeId}{n:Nat}(ht:P.underlying t=some (.slice e))(hs:BB P e=some n){i o len k:Nat}{cap:Option Nat}(hk:k<len):
    AC P t (.slice (some (i,o)) len cap) (iv (k:Int))=some (.ptr (some (i,o+k * n))):=by
  have hb:Nat.blt k len=true:=by simpa[oq]using hk
  simp[AC,Cu,BX,ht,hs,AF,hb]
theorem A7{P:Program}{t:TypeId}(h:Ey P t=some false){s:ASt}{i o:Nat}{u:AV}(hl:load1 s i o=some u):AD P s t (.ptr (some (i,o)))=some u:=by
  simp[AD,h,hl]
theorem AZ{P:Program}{t e:TypeId}(ht:P.underlying t=some (.slice e)){s:ASt}{a:Option (Nat×Nat)}{n:Nat}{cap:Option Nat}:Ao P s t (.slice a n cap)=some (iv (n:Int)):=by
  simp[Ao,ht]
end
end Go.Proofs.Ytilhhmkdcoajnaa.Am
