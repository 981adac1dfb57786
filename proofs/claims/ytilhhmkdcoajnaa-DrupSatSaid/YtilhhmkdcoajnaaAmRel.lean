/- How the abstract machine's values and memory stand to the model's: VRel, Inv; conditions: none. -/
import Derived.CallsIn
import Derived.Laws.Sem
import Derived.Test.YtilhhmkdcoajnaaAmRun
namespace Go.Proofs.Ytilhhmkdcoajnaa.Am
open Go
noncomputable section
structure RB where
  b:Nat
  off:Nat
  N:Nat
  sz:Nat
abbrev Rho:=Nat→Option RB
mutual
inductive Aa (ρ:Rho):AV→Value→Prop
  | bool (b:Bool):Aa ρ (.bool b) (.bool b)
  | int (k:IntKind) (n:Int):Aa ρ (.int k n) (.int k n)
  | str {l:List Nat} {s:ByteArray} (h:s.data.toList.map (fun(b:UInt8)=>b.toNat)=l):Aa ρ (.str l) (.string s)
  | ptrNil:Aa ρ (.ptr none) (.pointer none)
  | ptr {i o:Nat} {rb:RB} (h:ρ i=some rb):Aa ρ (.ptr (some (i,o))) (.pointer (some ⟨rb.b,rb.off+o,none⟩))
  | sliceNil:Aa ρ (.slice none 0 (some 0)) (.slice none 0 0)
  | slice {i o len c:Nat} {rb:RB} (h:ρ i=some rb) (hl:len≤c):Aa ρ (.slice (some (i,o)) len (some c)) (.slice (some ⟨rb.b,rb.off+o,none⟩) len c)
  | sliceOpen {i o len c:Nat} {rb:RB} (h:ρ i=some rb) (hs:0<rb.sz) (hl:len≤c) (h1:o+c * rb.sz≤rb.N) (h2:rb.N<o+(c+1) * rb.sz):
      Aa ρ (.slice (some (i,o)) len none) (.slice (some ⟨rb.b,rb.off+o,none⟩) len c)
  | sliceEnd {i o:Nat} {rb:RB} {a:Addr} (h:ρ i=some rb) (hs:0<rb.sz) (h1:o≤rb.N) (h2:rb.N<o+rb.sz):
      Aa ρ (.slice (some (i,o)) 0 none) (.slice (some a) 0 0)
  | mapNil:Aa ρ (.map none) (.map none)
  | map {i:Nat} {rb:RB} (h:ρ i=some rb):Aa ρ (.map (some i)) (.map (some rb.b))
  | func {f:FuncId} {a c:List AV} {a' c':Array Value} (ha:AU ρ a a'.toList) (hc:AU ρ c c'.toList):Aa ρ (.func f a c) (.func (.func f) a' c')
  | yield {i:Nat} {rb:RB} (h:ρ i=some rb):Aa ρ (.yield i) (.func (.yield rb.b) #[] #[])
  | nilFunc:Aa ρ .nilFunc .nilFunc
  | nilIface:Aa ρ .nilIface .nilIface
  | iface {t:TypeId} {v:AV} {v':Value} (h:Aa ρ v v'):Aa ρ (.iface t v) (.iface t v')
  | agg {cs:List AV} {cs':Array Value} (h:AU ρ cs cs'.toList):Aa ρ (.agg cs) (.agg cs')
  | tuple {cs:List AV} {cs':Array Value} (h:AU ρ cs cs'.toList):Aa ρ (.tuple cs) (.tuple cs')
inductive AU (ρ:Rho):List AV→List Value→Prop
  | nil:AU ρ [] []
  | cons {v:AV} {v':Value} {l:List AV} {l':List Value} (h:Aa ρ v v') (hs:AU ρ l l'):AU ρ (v::l) (v'::l')
end
def Rho.le(ρ σ:Rho):Prop:=∀i rb,ρ i=some rb→σ i=some rb
theorem Rho.le_refl(ρ:Rho):ρ.le ρ:=fun _ _ h=>h
theorem Rho.le_trans{ρ σ τ:Rho}(h:ρ.le σ)(k:σ.le τ):ρ.le τ:=fun i rb e=>k i rb (h i rb e)
mutual
theorem Aa.mono{ρ σ:Rho}(le:ρ.le σ){v:AV}{v':Value}(h:Aa ρ v v'):Aa σ v v':=by
  cases h with
  | bool b=>exact .bool b
  | int k n=>exact .int k n
  | str h=>exact .str h
  | ptrNil=>exact .ptrNil
  | ptr h=>exact .ptr (le _ _ h)
  | sliceNil=>exact .sliceNil
  | slice h hl=>exact .slice (le _ _ h) hl
  | sliceOpen h hs hl h1 h2=>exact .sliceOpen (le _ _ h) hs hl h1 h2
  | sliceEnd h hs h1 h2=>exact .sliceEnd (le _ _ h) hs h1 h2
  | mapNil=>exact .mapNil
  | map h=>exact .map (le _ _ h)
  | func ha hc=>exact .func (AU.mono le ha) (AU.mono le hc)
  | yield h=>exact .yield (le _ _ h)
  | nilFunc=>exact .nilFunc
  | nilIface=>exact .nilIface
  | iface h=>exact .iface (Aa.mono le h)
  | agg h=>exact .agg (AU.mono le h)
  | tuple h=>exact .tuple (AU.mono le h)
theorem AU.mono{ρ σ:Rho}(le:ρ.le σ){v:List AV}{v':List Value}(h:AU ρ v v'):AU σ v v':=by
  cases h with
  | nil=>exact .nil
  | cons h hs=>exact .cons (Aa.mono le h) (AU.mono le hs)
end
section lists
variable{ρ:Rho}
theorem AU.length{l:List AV}{l':List Value}(h:AU ρ l l'):l.length=l'.length:=by
  induction l generalizing l' with
  | nil=>cases h;rfl
  | cons a l ih=>cases h with | cons h hs=>simp[ih hs]
theorem AU.get{l:List AV}{l':List Value}(h:AU ρ l l'){k:Nat}{v:AV}(hk:l[k]? = some v):∃v',l'[k]? = some v'∧Aa ρ v v':=by
  induction l generalizing l' k with
  | nil=>simp at hk
  | cons a l ih =>
    cases h with
    | cons h hs =>
      cases k with
      | zero=>simp at hk;subst hk;exact⟨_,rfl,h⟩
      | succ k=>simp at hk;obtain⟨v',h1,h2⟩:=ih hs hk;exact⟨v',by simpa using h1,h2⟩
theorem AU.of_get{l:List AV}{l':List Value}(hl:l.length=l'.length)(h:∀ (k:Nat)(v:AV)(v':Value),l[k]? = some v→l'[k]? = some v'→Aa ρ v v'):AU ρ l l':=by
  induction l generalizing l' with
  | nil=>cases l' with | nil=>exact .nil | cons=>simp at hl
  | cons a l ih =>
    cases l' with
    | nil=>simp at hl
    | cons a' l'=>exact .cons (h 0 a a' rfl rfl) (ih (by simpa using hl) fun k v v' h1 h2=>h (k+1) v v' (by simpa using h1) (by simpa using h2))
theorem AU.append{l m:List AV}{l' m':List Value}(h:AU ρ l l')(k:AU ρ m m'):AU ρ (l++m) (l'++m'):=by
  induction l generalizing l' with
  | nil=>cases h;exact k
  | cons a l ih=>cases h with | cons h hs=>exact .cons h (ih hs)
theorem AU.take{l:List AV}{l':List Value}(h:AU ρ l l')(n:Nat):AU ρ (l.take n) (l'.take n):=by
  induction l generalizing l' n with
  | nil=>cases h;simp;exact .nil
  | cons a l ih =>
    cases h with
    | cons h hs=>cases n with
      | zero=>exact .nil
      | succ n=>exact .cons h (ih hs n)
theorem AU.drop{l:List AV}{l':List Value}(h:AU ρ l l')(n:Nat):AU ρ (l.drop n) (l'.drop n):=by
  induction l generalizing l' n with
  | nil=>cases h;simp;exact .nil
  | cons a l ih =>
    cases h with
    | cons h hs=>cases n with
      | zero=>exact .cons h hs
      | succ n=>exact ih hs n
theorem Aa.cells{v:AV}{v':Value}(h:Aa ρ v v'):AU ρ v.cells v'.cells.toList:=by
  cases h with
  | agg h=>exact h
  | bool b=>exact .cons (.bool b) .nil
  | int k n=>exact .cons (.int k n) .nil
  | str h=>exact .cons (.str h) .nil
  | ptrNil=>exact .cons .ptrNil .nil
  | ptr h=>exact .cons (.ptr h) .nil
  | sliceNil=>exact .cons .sliceNil .nil
  | slice h hl=>exact .cons (.slice h hl) .nil
  | sliceOpen h hs hl h1 h2=>exact .cons (.sliceOpen h hs hl h1 h2) .nil
  | sliceEnd h hs h1 h2=>exact .cons (.sliceEnd h hs h1 h2) .nil
  | mapNil=>exact .cons .mapNil .nil
  | map h=>exact .cons (.map h) .nil
  | func ha hc=>exact .cons (.func ha hc) .nil
  | yield h=>exact .cons (.yield h) .nil
  | nilFunc=>exact .cons .nilFunc .nil
  | nilIface=>exact .cons .nilIface .nil
  | iface h=>exact .cons (.iface h) .nil
  | tuple h=>exact .cons (.tuple h) .nil
theorem Aa.oneCell{v:AV}{v':Value}(h:Aa ρ v v')(hc:v.isCell=true):v'.oneCell'=true:=by
  cases h<;>first | rfl | cases hc
theorem AU.oneCell{l:List AV}{l':List Value}(h:AU ρ l l')(hc:Af l=true):∀v∈l',v.oneCell'=true:=by
  induction l generalizing l' with
  | nil=>cases h;simp
  | cons a l ih =>
    cases h with
    | cons h hs =>
      simp only[Af,Bool.and_eq_true]at hc
      intro v hv
      rcases ov.1 hv with rfl | hv
      · exact h.oneCell hc.1
      · exact ih hs hc.2 v hv
end lists
theorem Ie(ρ:Rho){v:Value}{a:AV}(h:Id v=some a):Aa ρ a v:=by
  unfold Id at h
  split at h<;>first
    | (injection h with h;subst h;first | exact .bool _ | exact .int _ _ | exact .str rfl | exact .ptrNil | exact .sliceNil | exact .mapNil | exact .nilFunc | exact .nilIface)
    | cases h
theorem FZ(ρ:Rho):∀ {l:List Value}{r:List AV},Es l=some r→AU ρ r l
  | [],r,h=>by simp[Es]at h;subst h;exact .nil
  | v::l,r,h=>by
    simp only[Es,oE]at h
    obtain⟨a,ha,r',hr,h⟩:=h
    injection h with h;subst h
    exact .cons (Ie ρ ha) (FZ ρ hr)
theorem B1(ρ:Rho){v:Value}{a:AV}(h:ofValue v=some a):Aa ρ a v:=by
  unfold ofValue at h
  split at h
  · simp only[oE]at h
    obtain⟨l,hl,h⟩:=h
    injection h with h;subst h
    exact .agg (FZ ρ hl)
  · simp only[oE]at h
    obtain⟨l,hl,h⟩:=h
    injection h with h;subst h
    exact .tuple (FZ ρ hl)
  · exact Ie ρ h
theorem Df(ρ:Rho):Aa ρ Au undef:=.tuple .nil
theorem AJ{α:Type}{b:Bool}{x:Option α}{a:α}(h:AF b x=some a):b=true∧x=some a:=by
  cases b with
  | true=>exact⟨rfl,h⟩
  | false=>cases h
inductive Ed (ρ:Rho):List (AV×AV×Nat)→List MapEntry→Prop
  | nil:Ed ρ [] []
  | cons {k v:AV} {b:Nat} {e:MapEntry} {l:List (AV×AV×Nat)} {l':List MapEntry} (hk:Aa ρ k e.key) (hv:Aa ρ v e.val) (hb:e.born=b) (hs:Ed ρ l l'):Ed ρ ((k,v,b)::l) (e::l')
theorem Ed.mono{ρ σ:Rho}(le:ρ.le σ){l:List (AV×AV×Nat)}{l':List MapEntry}(h:Ed ρ l l'):Ed σ l l':=by
  induction h with
  | nil=>exact .nil
  | cons hk hv hb _ ih=>exact .cons (hk.mono le) (hv.mono le) hb ih
structure Fe(ρ:Rho)(w:World)(r:EF)(rb:RB):Prop where
  cells:∀k v,k<r.n→r.c.get k=some v→∃v',w.cell? ⟨rb.b,rb.off+k,none⟩=some v'∧Aa ρ v v'
  le:r.n≤rb.N
  sz:r.sz=rb.sz
  tight:r.spare=false→rb.N=r.n
  own:r.mode≠.ro→∃cs e,w.heap[rb.b]? = some (.cells cs e (0,0))∧rb.off+rb.N≤cs.size
  par:∀p,r.par=some p→∃rp,ρ p=some rp
def EA(ρ:Rho)(vars:List Tmp)(var:List AV)(tmps:Array Value):Prop:=
  ∀ (t:Tmp) (k:Nat),Bu vars t=some k→t<tmps.size∧∃v:AV,var[k]? = some v∧Aa ρ v (tmps.getD t undef)
end
end Go.Proofs.Ytilhhmkdcoajnaa.Am
