/- Texts joined: Its, RngN, Newl, Shelf, DigA, DigB, DigC, DigD, DigE, DigF, DigG, DigH, DigI, DigJ, DigK, DigL, DigM, DigN, Rev, DigO, DigP2. -/
import Derived.Test.YtliklcmddmpdfaaGreatDoorPSB
import Derived.Test.YtliklcmddmpdfaaGreatDoorPSA
import Derived.RangeFuncNested
import Derived.Shelf.Strings.Builder1
import Derived.Shelf.Strings.Builder2
import Derived.Shelf.Strings.OnBuilder
import Derived.Shelf.Small.Bits
import Derived.Shelf.Strings.BuilderF
import Derived.Shelf.Strings.BuilderK
import Derived.Shelf.Strings.Builder2Cap
import Derived.Shelf.Strconv.Itoa0
import Derived.Shelf.Strings.BuilderCap
import Derived.Ground.Names2Prog
import Derived.Shelf.Slices.ReverseS
import Derived.Shelf.Slices.Cells
import Derived.Ground.SlgnProg
import Derived.Shelf.SlicesE.Reverse
import Derived.Test.YtliklcmddmpdfaaGreatDoorProg
import Derived.Test.YtliklcmddmpdfaaGreatDoorRows
set_option linter.unusedVariables false
set_option linter.unusedSimpArgs false
set_option maxRecDepth 4000
set_option maxHeartbeats 4000000
open Go Go.PW in
@[reducible] def Go.PW.Ff (f:FuncId) (xs:Array Value) (w0:World) (x:Value):Prop:=Ret Go.Proofs.Tryz.prog f xs w0 λv w=>v=x∧Ext No w0 w
namespace Go.PW
open Go.RowKit
section
variable {M:Nat→Prop} {w0 w w':World} {H:List Ent}
theorem St.fuse {e1 e2:Ent} (e:Ent) (h:St M w0 (e1::e2::H) w) (hf:∀k,e.foot k→e1.foot k∨e2.foot k) (hok:e1.ok w→e2.ok w→e.ok w):St M w0 (e::H) w:=by
 obtain⟨h1,h2⟩:=B9.1 h.dis;obtain⟨h3,h4⟩:=B9.1 h2;have a1:=h.ok e1 sm;have a2:=h.ok e2 sm;refine⟨h.ext,λx hx=>?_,List.Pairwise.cons (λx hx k hk hk'=>?_) h4⟩
 ·rcases A0.1 hx with rfl|hx
  ·exact⟨hok a1.1 a2.1,λk hk=>(hf k hk).elim (a1.2 k) (a2.2 k)⟩
  ·exact h.ok x ER
 ·rcases hf k hk with hk|hk
  ·exact h1 x ER k hk hk'
  ·exact h3 x hx k hk hk'
theorem St.turn {e1:Ent} (e:Ent) (h:St M w0 (e1::H) w) (hf:∀k,e.foot k→e1.foot k) (hok:e1.ok w→e.ok w):St M w0 (e::H) w:=by
 obtain⟨h1,h2⟩:=B9.1 h.dis;have a1:=h.ok e1 sm;refine⟨h.ext,λx hx=>?_,List.Pairwise.cons (λx hx k hk hk'=>h1 x hx k (hf k hk) hk') h2⟩;rcases A0.1 hx with rfl|hx
 ·exact⟨hok a1.1,λk hk=>a1.2 k (hf k hk)⟩
 ·exact h.ok x ER
theorem St.empty (e:Ent) (h:St M w0 H w) (hf:∀k,¬e.foot k) (hok:e.ok w):St M w0 (e::H) w:=
 ⟨h.ext,λx hx=>by
  rcases A0.1 hx with rfl|hx
  ·exact⟨hok,λk hk=>absurd hk (hf k)⟩
  ·exact h.ok x hx,List.Pairwise.cons (λx hx k hk=>absurd hk (hf k)) h.dis⟩
theorem oF (v:Value):slBlk v=v.ownBlock:=by unfold slBlk Value.ownBlock; rfl
theorem SlAt.one' {v:Value} {sz:Nat} {els:List (List Value)} (h:SlAt w v sz els):v.oneCell'=true:=by
 rcases h.2.2 with⟨h,_⟩|⟨b,off,cap,h,_⟩<;>subst h<;>rfl
end
end Go.PW
namespace Go.Proofs.YtliklcmddmpdfaaGreatDoor
open Go.PW Go.RowKit
structure Itw where
 m:Itm
 pv:Value
def Itw.z:Itw:=⟨Itm.z,.slice none 0 0⟩
def Itw.cells (x:Itw):List Value:=[.int .i64 x.m.ix,sv x.m.e,x.pv]
def itsM (L:List Itw):List Itm:=L.map Itw.m
def ItsAt (w:World) (iv:Value) (L:List Itw):Prop:=SlAt w iv 3 (L.map Itw.cells)∧∀x∈L,SlAt w x.pv 1 (x.m.pf.map λs=>[sv s])
def pfsE (L:List Itw):Ent where
 foot k:=∃x∈L,slBlk x.pv=some k
 ok w:=∀x∈L,SlAt w x.pv 1 (x.m.pf.map λs=>[sv s])
 stable w w' h ho x hx:=(sl x.pv 1 (x.m.pf.map λs=>[sv s])).stable w w' (λk hk=>h k ⟨x,hx,hk⟩) (ho x hx)
def itsE (iv:Value) (L:List Itw):Ent where
 foot k:=slBlk iv=some k∨∃x∈L,slBlk x.pv=some k
 ok w:=ItsAt w iv L
 stable w w' h ho:=⟨(sl iv 3 (L.map Itw.cells)).stable w w' (λk hk=>h k (.inl hk)) ho.1,λx hx=>(sl x.pv 1 (x.m.pf.map λs=>[sv s])).stable w w' (λk hk=>h k (.inr ⟨x,hx,hk⟩)) (ho.2 x hx)⟩
structure Rpw where
 at_:Int
 hd:Hd
 iv:Value
 L:List Itw
def Rpw.z:Rpw:=⟨0,Hd.z,.slice none 0 0,[]⟩
def Rpw.cells (r:Rpw):List Value:=[.int .i64 r.at_,.int .i64 r.hd.c,.int .i64 r.hd.n,sv r.hd.root,sv r.hd.tag,r.iv]
def Rpw.m (r:Rpw):Rpl:=⟨r.at_,r.hd,itsM r.L⟩
def RepAt (w:World) (lv:Value) (R:List Rpw):Prop:=SlAt w lv 6 (R.map Rpw.cells)∧∀r∈R,ItsAt w r.iv r.L
def repsE (R:List Rpw):Ent where
 foot k:=∃r∈R,(itsE r.iv r.L).foot k
 ok w:=∀r∈R,ItsAt w r.iv r.L
 stable w w' h ho r hr:=(itsE r.iv r.L).stable w w' (λk hk=>h k ⟨r,hr,hk⟩) (ho r hr)
section
variable {M:Nat→Prop} {w0 w w':World} {H:List Ent} {iv lv pv:Value} {L:List Itw} {R:List Rpw} {T:TypeId} {x:Itw} {r:Rpw}
theorem ItsAt.grow (h:ItsAt w iv L) (hx:Ext No w w'):ItsAt w' iv L:=⟨h.1.grow hx,λx hm=>(h.2 x hm).grow hx⟩
theorem RepAt.grow (h:RepAt w lv R) (hx:Ext No w w'):RepAt w' lv R:=⟨h.1.grow hx,λx hm=>(h.2 x hm).grow hx⟩
theorem ItsAt.nil (w:World):ItsAt w (.slice none 0 0) []:=⟨fT _ _,by simp⟩
theorem ItsAt.len (h:ItsAt w iv L):L.length≤281474976710656:=by have:=h.1.2.1; simpa [big] using this
theorem RepAt.len (h:RepAt w lv R):R.length≤281474976710656:=by have:=h.1.2.1; simpa [big] using this
theorem cw (U:St No w0 H w) (h:ItsAt w0 iv L):ItsAt w iv L:=h.grow U.ext
theorem jU (U:St No w0 H w) (h:RepAt w0 lv R):RepAt w lv R:=h.grow U.ext
theorem bG {k:Nat} (U:St M w0 H w) (hk:H[k]?=some (itsE iv L)):ItsAt w iv L:=U.get hk
theorem lB (h:SlAt w x.pv 1 (x.m.pf.map λs=>[sv s])):∀e∈[x.cells],∀u∈e,u.oneCell'=true:=by
 intro e he u hu;rw[Bl] at he;subst he;simp only[Itw.cells,A0,A4,Bm] at hu;rcases hu with rfl|rfl|rfl
 ·rfl
 ·rfl
 ·exact h.one'
theorem tA (h:St M w0 H w):St M w0 (pfsE []::H) w:=h.empty _ (by rintro k ⟨x,hx,_⟩; cases hx) (by intro x hx; cases hx)
theorem jM {E:TypeId} (x:Itw) (h:St M w0 (own x.pv E 1 (x.m.pf.map λs=>[sv s])::pfsE L::H) w):St M w0 (pfsE (L++[x])::H) w:=by
 refine h.fuse _ ?_ ?_
 ·rintro k ⟨y,hy,hk⟩;rcases BO.1 hy with hy|hy
  ·exact .inr ⟨y,hy,hk⟩
  ·rw[Bl.1 hy] at hk;exact .inl (by show x.pv.ownBlock=some k; rw[←oF]; exact hk)
 ·intro h1 h2 y hy;rcases BO.1 hy with hy|hy
  ·exact h2 y hy
  ·rw[Bl.1 hy]; exact gZ h1
theorem wD {E:TypeId} (h:St M w0 (own iv E 3 (L.map Itw.cells)::pfsE L::H) w):St M w0 (itsE iv L::H) w:=by
 refine h.fuse _ ?_ ?_
 ·rintro k (hk|hk)
  ·exact .inl (by show iv.ownBlock=some k; rw[←oF]; exact hk)
  ·exact .inr hk
 ·intro h1 h2;exact⟨gZ h1,h2⟩
theorem wB (h:St M w0 H w):St M w0 (repsE []::H) w:=h.empty _ (by rintro k ⟨x,hx,_⟩; cases hx) (by intro x hx; cases hx)
theorem vT (r:Rpw) (h:St M w0 (itsE r.iv r.L::repsE R::H) w):St M w0 (repsE (R++[r])::H) w:=by
 refine h.fuse _ ?_ ?_
 ·rintro k ⟨y,hy,hk⟩;rcases BO.1 hy with hy|hy
  ·exact .inr ⟨y,hy,hk⟩
  ·rw[Bl.1 hy] at hk; exact .inl hk
 ·intro h1 h2 y hy;rcases BO.1 hy with hy|hy
  ·exact h2 y hy
  ·rw[Bl.1 hy]; exact h1
theorem zp (h:SlAt w r.iv 3 (r.L.map Itw.cells)):∀e∈[r.cells],∀u∈e,u.oneCell'=true:=by
 intro e he u hu;rw[Bl] at he;subst he;simp only[Rpw.cells,A0,A4,Bm] at hu;rcases hu with rfl|rfl|rfl|rfl|rfl|rfl
 all_goals first|rfl|exact h.one'
end
theorem dx (L:List Itw):(itsM L).length=L.length:=by rw[itsM,AP]
theorem oS {L:List Itw} {k:Nat} (h:k<L.length):(itsM L).drop k=(L.getD k Itw.z).m::(itsM L).drop (k+1):=by
 unfold itsM;have h':k<(L.map Itw.m).length:=by rw[AP]; exact h
 rw[BK h',Ch,AY,A2 h]; rfl
end Go.Proofs.YtliklcmddmpdfaaGreatDoor
namespace Go.PW
open Go.RowKit
section
variable {P:Program} {r:Option Nat} {a:Act} {w w' w0:World} {M:Nat→Prop} {H E:List Ent} {N:Nat} {L:List (Nat × Value)} {df:List Deferred} {Q:Exit→Act→World→Prop}
theorem g9 {α:Type} {g:Operand} {ps:List Tmp} {assign body:Code} {gf:FuncId} {cap:List Value} {encs:α→List Value} {Nx:List α→α→Prop} {S Sp:List α→List Ent→Prop} {Hi Hc:List Ent} {l0:Nat}
  (I:List α→List Ent→Prop) (Ix:Code→List α→List Ent→Prop) (A1:List α→α→List Ent→Act→Prop)
  (hg:ev L g=some (.func (.func gf) #[] cap.toArray)) (hen:∀args w,(callFunc gf args).run P w=.ok (.enter gf args) w) (hl0:∃r0:Loop,w.heap[l0]?=some (.loop r0))
  (Y:Fr N L df a) (U:St M w0 (Hc++Hi) w) (hiter:Iter P gf cap encs Nx S Sp M w0 Hi)
  (hps:∀p∈ps,p<N) (hlen:∀x,(encs x).length=ps.length) (h0:I [] Hc)
  (hassign:∀l pre x H a W,Nx pre x→I pre H→Fr N ((ps.zip (encs x)).reverse++L) [] a→St (join H).foot W H W→
   WC P (some l) assign (Exit.then (λa1 W1=>∃H1,A1 pre x H1 a1∧St (join H).foot W H1 W1) λ_ _ _=>False) a W)
  (hbody:∀l pre x H1 a1 W,Nx pre x→A1 pre x H1 a1→(∀w,Ext (join H1).foot W w→Ext M w0 w)→(∃rec:Loop,W.heap[l]?=some (.loop rec))→¬(join H1).foot l→St (join H1).foot W H1 W→
   WC P (some l) body (BPost (join H1).foot W (I (pre++[x])) (λc=>Ix c (pre++[x]))) a1 W)
  (hdone:∀xs H3 Hi' a' w',S xs Hi'→I xs H3→St M w0 (H3++Hi') w'→Fr N L df a'→Q .normal a' w')
  (hstop:∀c pre H3 Hi' a' w',Sp pre Hi'→Ix c pre H3→St M w0 (H3++Hi') w'→Fr N L df a'→WC P (some l0) c Q a' w'):
  WC P (some l0) (.rangeFunc g ps.toArray assign body) Q a w:=by
 refine wpIn_rangeFunc (F:=Fw (some l0)) λfn _=>?_;obtain⟨r0,hl0⟩:=hl0;obtain⟨rec,hrec⟩:∃rec:LoopState→Option Code→Loop,rec=λst pe=>{state:=st,pending:=pe,fn,tmps:=a.tmps,params:=ps.toArray,assign,body,defers:=r0.defers}:=⟨_,rfl⟩;obtain⟨W1,hW1⟩:∃W1,w.alloc (.loop (rec .ready none))=W1:=⟨_,rfl⟩
 have hs1:St M w0 (obj w.heap.size (.loop (rec .ready none))::(Hc++Hi)) W1:=by
  have:=U.alloc (.loop (rec .ready none));rw[hW1] at this;exact this
 have hev:=Y.eval hg
 refine⟨w.heap.size,[],W1,{target:=.fn (.func gf) cap.toArray,args:=#[.func (.yield w.heap.size) #[] #[]]},W1,gf,
  #[.func (.yield w.heap.size) #[] #[]]++cap.toArray,W1,?_,?_,λ_ _=>trivial,?_,λh=>Ep,trivial,?_⟩
 ·rw[←hW1,hrec]; exact run_enterLoop_inner hl0 _ _ _ _ _
 ·simp only[resolve,hev,Deferred.ofValue];simp[Act.eval]
 ·simp only[invoke,hen]
 ·let J:List α→Ent→Prop:=λpre e=>∃H,I pre H∧e=join (obj w.heap.size (.loop (rec .ready none))::H)
  let Jx:List α→Ent→Prop:=λpre e=>∃c H,Ix c pre H∧e=join (obj w.heap.size (.loop (rec .done (some c)))::H)
  have hround:∀pre x e W,Nx pre x→J pre e→St M w0 [e] W→
   Yield P w.heap.size (encs x).toArray W λv W'=>∃e',Ext e.foot W W'∧e'.ok W'∧(∀b,e'.foot b→b<W'.heap.size∧(e.foot b∨W.heap.size≤b))∧
    ((v=.bool true∧J (pre++[x]) e')∨(v=.bool false∧Jx (pre++[x]) e')):=by
   rintro pre x e W hnx ⟨H,hI,rfl⟩ hse;obtain⟨hok,hdis⟩:=hse.mem Bt;have hlt:∀k,(join (obj w.heap.size (.loop (rec .ready none))::H)).foot k→k<W.heap.size:=λk hk=>((hse.ok _ Bt).2 k hk).1;have hM:∀k,(join (obj w.heap.size (.loop (rec .ready none))::H)).foot k→k<w0.heap.size→M k:=λk hk=>((hse.ok _ Bt).2 k hk).2;obtain⟨hd1,hdis1⟩:=B9.1 hdis;have hl:W.heap[w.heap.size]?=some (.loop (rec .ready none)):=hok _ Bt;rw[hrec] at hl;have hnl:∀e∈H,∀k,e.foot k→k<W.heap.size∧k≠w.heap.size:=λe he k hk=>⟨hlt k ⟨e,Ba _ he,hk⟩,λh=>hd1 e he k h hk⟩
   have hy:=qr (P:=P) (Hc:=H) (A:=I (pre++[x])) (X:=λc=>Ix c (pre++[x])) (A1:=A1 pre x) hl (hlen x)
    (λe he=>⟨hok e (Ba _ he),hnl e he⟩) hdis1
    (hassign _ pre x H _ W hnx hI (Y.putAll hps) (St.inner H (λe he=>⟨hok e (Ba _ he),λk hk=>(hnl e he k hk).1⟩) hdis1))
    (λH1 a1 W2 hA1 hr hn hx hs=>hbody _ pre x H1 a1 W2 hnx hA1 (λw9 hx9=>by
     have hf:∀k,(join H).foot k→k<w0.heap.size→M k:=λk ⟨e,he,hk⟩ hlt=>hM k ⟨e,Ba _ he,hk⟩ hlt;have hw0:=U.ext.size;refine (hse.ext.trans hx.1 λb hb h=>?_).trans hx9 λb hb h=>?_
     ·rcases h with h|h
      ·omega
      ·exact hf b h hb
     ·rcases hx.2 b h with h|h
      ·exact hf b h hb
      ·have:=hse.ext.size; omega) hr hn hs)
   refine hy.mono ?_
   have fin:∀(ls:LoopState) (pe:Option Code) (H3:List Ent) (W':World),(∀e∈H3,e.ok W'∧∀k,e.foot k→k<W'.heap.size∧k≠w.heap.size∧((join H).foot k∨W.heap.size≤k))→H3.Pairwise Ent.disj→
     Ext (λk=>k=w.heap.size∨(join H).foot k) W W'→W'.heap[w.heap.size]?=some (.loop (rec ls pe))→
     Ext (join (obj w.heap.size (.loop (rec .ready none))::H)).foot W W'∧(join (obj w.heap.size (.loop (rec ls pe))::H3)).ok W'∧
     (∀b,(join (obj w.heap.size (.loop (rec ls pe))::H3)).foot b→b<W'.heap.size∧((join (obj w.heap.size (.loop (rec .ready none))::H)).foot b∨W.heap.size≤b)):=by
    intro ls pe H3 W' h2 h3 h4 h5;refine⟨h4.mono ?_,⟨?_,?_⟩,?_⟩
    ·rintro b _ (rfl|⟨e1,he1,hk1⟩)
     ·exact⟨obj w.heap.size (.loop (rec .ready none)),Bt,O⟩
     ·exact⟨e1,Ba _ he1,hk1⟩
    ·intro e he;rcases A0.1 he with rfl|he
     ·exact h5
     ·exact (h2 e he).1
    ·refine List.Pairwise.cons ?_ h3;intro e he k hk hk';exact ((h2 e he).2 k hk').2.1 hk
    ·rintro b ⟨e,he,hk⟩;rcases A0.1 he with rfl|he
     ·cases hk;exact⟨(A9.1 h5).1,.inl ⟨obj w.heap.size (.loop (rec .ready none)),Bt,O⟩⟩
     ·obtain⟨h6,_,h7⟩:=(h2 e he).2 b hk;refine⟨h6,h7.imp (λ⟨e1,he1,hk1⟩=>⟨e1,Ba _ he1,hk1⟩) id⟩
   rintro v W' (⟨H3,rfl,hA,h2,h3,h4,h5⟩|⟨c,H3,rfl,hX,h2,h3,h4,h5⟩)
   ·obtain⟨g1,g2,g3⟩:=fin .ready none H3 W' h2 h3 h4 (by rw[hrec]; exact h5);exact⟨_,g1,g2,g3,.inl ⟨O,H3,hA,O⟩⟩
   ·obtain⟨g1,g2,g3⟩:=fin .done (some c) H3 W' h2 h3 h4 (by rw[hrec]; exact h5);exact⟨_,g1,g2,g3,.inr ⟨O,c,H3,hX,O⟩⟩
  have hcall:=hiter w.heap.size J Jx W1 _ hround ⟨Hc,h0,rfl⟩ ((St.join (obj w.heap.size (.loop (rec .ready none))::Hc) Hi (by simpa using hs1)));have hargs:(#[.func (.yield w.heap.size) #[] #[]]++cap.toArray:Array Value)=(.func (.yield w.heap.size) #[] #[]::cap).toArray:=by simp
  rw[hargs];refine λcs hr=>?_;have hcall':CallsIn Fence.wide (0- 1) P gf (.func (.yield w.heap.size) #[] #[]::cap).toArray W1 _:=callsIn_wide.2 hcall;obtain⟨e,w3,fr,⟨v,rfl,e',Hi',hs3,hor⟩,hrest⟩:=hcall'.2 cs (room_wide _);refine⟨.returned v,w3,fr,?_,hrest⟩;have hfr':Fr N L df {tmps:=a.tmps,defers:=[]++a.defers}:=⟨Y.size,Y.get,by simp[Y.dfs]⟩;rcases hor with⟨xs,hS,H3,hI,rfl⟩|⟨pre,hSp,c,H3,hX,rfl⟩
  ·have hs4:=hs3.unjoin;have hl3:w3.heap[w.heap.size]?=some (.loop (rec .ready none)):=hs4.mem (e:=obj w.heap.size (.loop (rec .ready none))) Bt;refine⟨none,_,by have:=run_endLoop (P:=P) hl3 (by rw[hrec]; simp); rw[hrec] at this; exact this,?_⟩;refine hdone xs H3 Hi' _ _ hS hI ?_ hfr'
   have h5:=(hs4.exchange (k:=0) (e:=obj w.heap.size (.loop (rec .ready none))) (e':=obj w.heap.size (.loop {rec .ready none with state:=.exhausted})) rfl
    (Ext.putObj (M:=(·=w.heap.size)) rfl w3 (.loop {rec .ready none with state:=.exhausted})) (World.putObj_heap_same (A9.1 hl3).1) (λb hb=>by cases hb; exact⟨by simpa using (A9.1 hl3).1,.inl rfl⟩))
   have h6:=h5.sub (List.sublist_cons_self _ _);rw[hrec] at h6;exact h6
  ·have hs4:=hs3.unjoin;have hl3:w3.heap[w.heap.size]?=some (.loop (rec .done (some c))):=hs4.mem (e:=obj w.heap.size (.loop (rec .done (some c)))) Bt;refine⟨some c,_,by have:=run_endLoop (P:=P) hl3 (by rw[hrec]; simp); rw[hrec] at this; exact this,?_⟩;refine hstop c pre H3 Hi' _ _ hSp hX ?_ hfr'
   have h5:=(hs4.exchange (k:=0) (e:=obj w.heap.size (.loop (rec .done (some c)))) (e':=obj w.heap.size (.loop {rec .done (some c) with state:=.exhausted})) rfl
    (Ext.putObj (M:=(·=w.heap.size)) rfl w3 (.loop {rec .done (some c) with state:=.exhausted})) (World.putObj_heap_same (A9.1 hl3).1) (λb hb=>by cases hb; exact⟨by simpa using (A9.1 hl3).1,.inl rfl⟩))
   have h6:=h5.sub (List.sublist_cons_self _ _);rw[hrec] at h6;exact h6
end
end Go.PW
namespace Go.PW
theorem jl {M:Nat→Prop} {w w':World} {l:Nat} (hr:∃r:Loop,w.heap[l]?=some (.loop r)) (hn:¬M l) (hx:Ext M w w'):∃r:Loop,w'.heap[l]?=some (.loop r):=by
 obtain⟨r,h⟩:=hr;exact⟨r,(hx.same l (A9.1 h).1 hn).trans h⟩
theorem dm {w0 w:World} {b:Nat} {cs:List Value} {E:TypeId} (h:(blk b cs E).ok w0) (hx:Ext No w0 w):(blk b cs E).ok w:=by
 have hb:w0.heap[b]?=some (.cells cs.toArray E):=h;exact (hx.same b (A9.1 hb).1 λh=>h).trans hb
end Go.PW
namespace Go.PW
section
variable {P:Program} {a:Act} {w:World} {N:Nat} {L:List (Nat × Value)}
theorem ql {fn:Func} {rs:List ResultVar} {vs:List Value} {D E:Nat} {R:Value→World→Prop} (Y:Fr N L [{target:=.collected E,args:=#[]},{target:=.collected D,args:=#[]}] a) (hE:w.heap[E]?=some (.deferred (some []))) (hD:(w.putObj E (.deferred none)).heap[D]?=some (.deferred (some [])))
  (hres:fn.results=rs.toArray) (h:resAre P L ((w.putObj E (.deferred none)).putObj D (.deferred none)) rs vs) (hR:R (retv vs) ((w.putObj E (.deferred none)).putObj D (.deferred none))):Post P fn R .ret a w:=by
 show Fin P fn R a.tmps a.defers w;rw[Y.dfs];exact⟨E,O,hE,D,O,hD,_,ed hres Y h,hR⟩
end
end Go.PW
namespace Go.PW
open Go.RowKit
section
variable {P:Program} {r:Option Nat} {K:Act→World→Prop} {a:Act} {w w' w0:World} {M:Nat→Prop} {H:List Ent} {N:Nat} {L:List (Nat × Value)} {df:List Deferred}
def HopZv (P:Program) (r:Option Nat) (T:TypeId) (zs:List Value) (ns:Value→List Value) (L:List (Nat × Value)) (l:List Oper) (R:Nat→Value→List Ent→Prop) (ia qv i:Nat):List Nat→List (Nat × Value)→Prop
 | [],Lv=>∀b,lk Lv (dsOf l ia)=some (ptr b)→∀u,lk Lv (dsOf l qv)=some u→∀w,(blk b zs T).ok w→OpR P r (opAt l i) (Lv++L) w (λv w'=>v=undef∧Ext (blk b zs T).foot w w'∧(blk b (ns u) T).ok w')
 | p::ps,Lv=>∀v E,R p v E→HopZv P r T zs ns L l R ia qv i ps (Lv++[(dsOf l p,v)])
theorem HopZv.use {T:TypeId} {zs:List Value} {ns:Value→List Value} {l:List Oper} {R:Nat→Value→List Ent→Prop} {ia qv i:Nat} {V:Nat→Value} {E:Nat→List Ent}:∀{ps:List Nat} {Lv:List (Nat × Value)},HopZv P r T zs ns L l R ia qv i ps Lv→(∀p∈ps,R p (V p) (E p))→
  ∀b,lk (Lv++ps.map (λp=>(dsOf l p,V p))) (dsOf l ia)=some (ptr b)→∀u,lk (Lv++ps.map (λp=>(dsOf l p,V p))) (dsOf l qv)=some u→∀w,(blk b zs T).ok w→OpR P r (opAt l i) (Lv++ps.map (λp=>(dsOf l p,V p))++L) w (λv w'=>v=undef∧Ext (blk b zs T).foot w w'∧(blk b (ns u) T).ok w')
 | [],Lv,h,_,b,hb,u,hu,w,hs=>by simpa using h b (by simpa using hb) u (by simpa using hu) w hs
 | p::ps,Lv,h,hR,b,hb,u,hu,w,hs=>by
  have:=HopZv.use (h (V p) (E p) (hR p sm)) (λq hq=>hR q DG) b (by simpa using hb) u (by simpa using hu) w hs;simpa using this
def HopN (P:Program) (r:Option Nat) (M:Nat→Prop) (w0:World) (H:List Ent) (L:List (Nat × Value)) (l:List Oper) (R:Nat→Value→List Ent→Prop) (lks:List (Nat × Nat × (Value→Value))) (i:Nat):List Nat→List (Nat × Value)→List Ent→Prop
 | [],Lv,Es=>(∀x∈lks,∀u u',lk Lv (dsOf l x.1)=some u→lk Lv (dsOf l x.2.1)=some u'→u=x.2.2 u')→∀w,St M w0 (Es++H) w→OpR P r (opAt l i) (Lv++L) w (GrowR w (R i))
 | p::ps,Lv,Es=>∀v E,R p v E→HopN P r M w0 H L l R lks i ps (Lv++[(dsOf l p,v)]) (Es++E)
theorem HopN.use {l:List Oper} {R:Nat→Value→List Ent→Prop} {lks:List (Nat × Nat × (Value→Value))} {i:Nat} {V:Nat→Value} {E:Nat→List Ent}:∀{ps:List Nat} {Lv:List (Nat × Value)} {Es:List Ent},HopN P r M w0 H L l R lks i ps Lv Es→(∀p∈ps,R p (V p) (E p))→
  (∀x∈lks,∀u u',lk (Lv++ps.map (λp=>(dsOf l p,V p))) (dsOf l x.1)=some u→lk (Lv++ps.map (λp=>(dsOf l p,V p))) (dsOf l x.2.1)=some u'→u=x.2.2 u')→
  ∀w,St M w0 (Es++ps.flatMap E++H) w→OpR P r (opAt l i) (Lv++ps.map (λp=>(dsOf l p,V p))++L) w (GrowR w (R i))
 | [],Lv,Es,h,_,hl,w,hs=>by simpa using h (by simpa using hl) w Dd
 | p::ps,Lv,Es,h,hR,hl,w,hs=>by
  have:=HopN.use (h (V p) (E p) (hR p sm)) (λq hq=>hR q DG) (by simpa using hl) w Dd;simpa using this
theorem fp {l:List Oper} (ia js qv:Nat) (lks:List (Nat × Nat × (Value→Value))) (T:TypeId) (zs:List Value) (ns:Value→List Value) (m:Nat) (ps:List (List Nat)) (R:Nat→Value→List Ent→Prop) (Y:Fr N L df a) (U:St M w0 H w)
  (hmix:P.follows .mixedOrders=true) (hok:phOkM l m N (keys L) ps=true) (hds:((List.range m).all λi=>decide (i=js)||(opAt l i).dst.isSome)=true) (hpsn:((List.range m).all λi=>(ps.getD i []).all λp=>!decide (p=js))=true)
  (hia:ia<m) (hjs:js<m) (hne:ia≠js) (hpa:ia∈ps.getD js []) (hpq:qv∈ps.getD js []) (hqj:qv≠js)
  (hnda:(((ps.getD js []).map (dsOf l)).Nodup)) (hlf:(lks.all λx=>decide (x.1<m)&&decide (x.1≠ia)&&decide (x.1≠js)&&decide (ps.getD x.1 []=[x.2.1])&&decide (x.2.1<m)&&decide (x.2.1≠js))=true)
  (hfun:∀x∈lks,∀y∈lks,x.1=y.1→x=y) (hRm:∀i v E,R i v E→i<m) (hRs:∀v E,R js v E→v=undef∧E=[]) (hR0:R js undef []) (hRa:∀v E,R ia v E↔∃b,v=ptr b∧E=[])
  (hop:∀i,i<m→i≠ia→i≠js→i∉lks.map (·.1)→∀e,HopN P r M w0 (e::H) L l R lks i (ps.getD i []) [] [])
  (hlk:∀x∈lks,∀e v E,R x.2.1 v E→∀w,St M w0 (E++e::H) w→OpR P r (opAt l x.1) ([(dsOf l x.2.1,v)]++L) w λv' w'=>Ext No w w'∧v'=x.2.2 v∧R x.1 v' [])
  (hal:∀(Lv:List (Nat × Value)) w,OpR P r (opAt l ia) (Lv++L) w λv w'=>v=ptr w.heap.size∧w'=w.alloc (.cells zs.toArray T))
  (hsto:HopZv P r T zs ns L l R ia qv js (ps.getD js []) [])
  (hk:∀(V:Nat→Value) b,V ia=ptr b→(∀(k:Nat) (x:Nat × Nat × (Value→Value)),lks[k]?=some x→V x.1=x.2.2 (V x.2.1))→HopK P r M w0 (blk b (ns (V qv)) T::H) N L df l m (λi v E=>R i v E∧v=V i) K ((List.range m).filter λi=>!decide (i=js)) [] []):DR P r l.toArray K a w:=by
 have hsome:∀i,i<m→i≠js→(opAt l i).dst.isSome=true:=λi hi hn=>by
  have:=Be.1 hds i (A6.2 hi);simpa [hn] using this
 have hpm:∀i,i<m→∀p∈ps.getD i [],p<m∧p≠js:=by
  intro i hi p hp;have hok2:=hok;simp only[phOkM,AU,Be,AZ,A6] at hok2;refine⟨((hok2.1.1.1.2 i hi).1.2 p hp).2,?_⟩;have:=Be.1 (Be.1 hpsn i (A6.2 hi)) p hp;simpa using this
 have hmap:∀(V:Nat→Value) (is:List Nat),(∀p∈is,p<m∧p≠js)→is.map (λp=>(dsv l N p,V p))=is.map λp=>(dsOf l p,V p):=λV is h=>BC λp hp=>by rw[gC (hsome p (h p hp).1 (h p hp).2)]
 have hst0:St M w0 (join []::H) w:=by
  have:=St.join [] H U;simpa using this
 have hlx:∀x∈lks,x.1<m∧x.1≠ia∧x.1≠js∧ps.getD x.1 []=[x.2.1]∧x.2.1<m∧x.2.1≠js:=λx hx=>by
  have:=Be.1 hlf x hx;simp only[AU,AZ] at this;exact⟨this.1.1.1.1.1,this.1.1.1.1.2,this.1.1.1.2,this.1.1.2,this.1.2,this.2⟩
 refine dS (M:=M) (w0:=w0) (e0:=join []) m ps (ia::js::lks.map (·.1)) hmix hok R (λi v E hd hR=>?_)
  (λD V e=>((js∈D→ia∈D∧qv∈D)∧((ia∉D∧e=join [])∨(ia∈D∧∃b,V ia=ptr b∧e=blk b (if js∈D then ns (V qv) else zs) T)))∧∀x∈lks,x.1∈D→x.2.1∈D∧V x.1=x.2.2 (V x.2.1)) (λV=>⟨⟨by simp,.inl ⟨by simp,rfl⟩⟩,by simp⟩) ?_ Y hst0 ?_ ?_ ?_
 ·by_cases hi:i=js
  ·subst hi; exact (hRs v E hR).1
  ·have:=hsome i (hRm i v E hR) hi;rw[hd] at this; cases this
 ·rintro i D V V' e him hmq hV ⟨⟨h0,hor⟩,hl⟩;simp only[A0,not_or] at hmq;have hja:js∈i::D↔js∈D:=by simp[Ne.symm hmq.2.1]
  have hia':ia∈i::D↔ia∈D:=by simp[Ne.symm hmq.1]
  refine⟨⟨λh=>⟨hia'.2 (h0 (hja.1 h)).1,Ba _ (h0 (hja.1 h)).2⟩,?_⟩,λx hx hD=>?_⟩
  ·rcases hor with⟨h1,h2⟩|⟨h1,b,h2,h3⟩
   ·exact .inl ⟨λh=>h1 (hia'.1 h),h2⟩
   ·refine .inr ⟨hia'.2 h1,b,(hV ia h1).trans h2,?_⟩;rw[h3]; congr 1; by_cases hj:js∈D
    ·rw[Bi hj,Bi (hja.2 hj),hV qv (h0 hj).2]
    ·rw[Bc hj,Bc (λh=>hj (hja.1 h))]
  ·have hne2:x.1≠i:=λe=>hmq.2.2 (e▸BA.2 ⟨x,hx,rfl⟩);have hD':x.1∈D:=by rcases A0.1 hD with h|h; exact absurd h hne2; exact h
   obtain⟨g1,g2⟩:=hl x hx hD';exact⟨Ba _ g1,by rw[hV _ hD',hV _ g1]; exact g2⟩
 ·intro i him hmq V E w hR D e hp hG hni hs;simp only[A0,not_or] at hmq;rw[hmap V _ (hpm i him)];have hok2:=hok;simp only[phOkM,AU,Be,AZ,A6,BE,List.contains_eq_mem,Bn] at hok2;have hnk:((List.range m).map (dsv l N)).Nodup:=hok2.1.1.2;have hpn:(ps.getD i []).Nodup:=(hok2.1.1.1.2 i him).2
  have hnd9:((ps.getD i []).map (dsOf l)).Nodup:=by
   have h1:=cD hnk hpn (λp hp=>(hpm i him p hp).1);rwa [BC λp hp=>gC (N:=N) (hsome p (hpm i him p hp).1 (hpm i him p hp).2)] at h1
  have get:∀y u,y<m→y≠js→lk ((ps.getD i []).map λp=>(dsOf l p,V p)) (dsOf l y)=some u→y∈ps.getD i []∧u=V y:=by
   intro y u hy hyj h;have hmem:=bM h;simp only[keys,Ca,BA] at hmem;obtain⟨p,hp9,hpe⟩:=hmem;simp only[Function.comp_apply] at hpe;obtain⟨p1,p2⟩:=hpm i him p hp9
   have hpy:p=y:=Classical.byContradiction λhne=>by
    have h1:=cD (D:=[p,y]) hnk (by simp[hne]) (by intro z hz; simp only[A0,A4,Bm] at hz; rcases hz with rfl|rfl; exact p1; exact hy);simp only[BL,Ci,Cc,Bl,A4,not_false_eq_true,List.nodup_nil,and_self,and_true] at h1;rw[gC (hsome p p1 p2),gC (hsome y hy hyj)] at h1;exact h1 hpe
   subst hpy;rw[cU (ds:=dsOf l) (V:=V) hnd9 hp9] at h;exact⟨hp9,(BZ h).symm⟩
  have hlks:∀x∈lks,∀u u',lk (([]:List (Nat × Value))++(ps.getD i []).map (λp=>(dsOf l p,V p))) (dsOf l x.1)=some u→lk (([]:List (Nat × Value))++(ps.getD i []).map (λp=>(dsOf l p,V p))) (dsOf l x.2.1)=some u'→u=x.2.2 u':=by
   intro x hx u u' h1 h2;obtain⟨l1,l2,l3,l4,l5,l6⟩:=hlx x hx;obtain⟨g1,rfl⟩:=get x.1 u l1 l3 h1;obtain⟨g2,rfl⟩:=get x.2.1 u' l5 l6 h2;exact (hG.2 x hx (hp x.1 g1)).2
  have:=HopN.use (V:=V) (E:=E) (hop i him hmq.1 hmq.2.1 hmq.2.2 e) hR hlks w Dv;simpa using this
 ·intro i him hmq V E w hR D e hp hG hni hs;obtain⟨⟨h0,hor⟩,hl⟩:=hG;rw[hmap V _ (hpm i him)]
  have hkeep:∀V':Nat→Value,(∀j∈D,V' j=V j)→i∉lks.map (·.1)→∀x∈lks,x.1∈i::D→x.2.1∈i::D∧V' x.1=x.2.2 (V' x.2.1):=by
   intro V' hV' hil x hx hD;have hD':x.1∈D:=by rcases A0.1 hD with h|h; exact absurd (h▸BA.2 ⟨x,hx,rfl⟩) hil; exact h
   obtain⟨g1,g2⟩:=hl x hx hD';exact⟨Ba _ g1,by rw[hV' _ hD',hV' _ g1]; exact g2⟩
  have hnot:∀y,y=ia∨y=js→y∉lks.map (·.1):=by
   intro y hy hm;obtain⟨x,hx,rfl⟩:=BA.1 hm;have:=hlx x hx;rcases hy with h|h
   ·exact this.2.1 h
   ·exact this.2.2.1 h
  by_cases hi:i=ia
  ·subst hi;rcases hor with⟨_,rfl⟩|⟨h1,_⟩
   ·refine (hal _ w).mono ?_;rintro v w' ⟨rfl,rfl⟩;have hjn:js∉D:=λh=>hni (h0 h).1;refine⟨blk w.heap.size zs T,Ext.alloc _ _ _,World.alloc_heap_new w _,λb hb=>by cases hb; exact⟨by simp,.inr (Bs _)⟩,(hRa _ _).2 ⟨_,O,O⟩,λV' hV' hv=>⟨⟨λh=>by simp[hjn,Ne.symm hne] at h,.inr ⟨by simp,_,hv,?_⟩⟩,hkeep V' hV' (hnot _ (.inl O))⟩⟩;rw[Bc (by simp[hjn,Ne.symm hne])]
   ·exact absurd h1 hni
  ·by_cases hi2:i=js
   ·subst hi2;have hiaD:ia∈D:=hp ia hpa;have hqD:qv∈D:=hp qv hpq;rcases hor with⟨h1,_⟩|⟨_,b,h2,rfl⟩
    ·exact absurd hiaD h1
    ·rw[Bc hni] at hs⊢;have hb:=(hs.ok _ Bt)
     have hlk1:lk (([]:List (Nat × Value))++(ps.getD i []).map (λp=>(dsOf l p,V p))) (dsOf l ia)=some (ptr b):=by
      rw[Bw,cU (ds:=dsOf l) (V:=V) hnda hpa,h2]
     have hlk2:lk (([]:List (Nat × Value))++(ps.getD i []).map (λp=>(dsOf l p,V p))) (dsOf l qv)=some (V qv):=by
      rw[Bw,cU (ds:=dsOf l) (V:=V) hnda hpq]
     have:=HopZv.use (V:=V) (E:=E) hsto hR b hlk1 _ hlk2 w hb.1;refine OpR.mono EJ ?_;rintro v w' ⟨rfl,g2,g3⟩;exact⟨blk b (ns (V qv)) T,g2,g3,λk hk=>by cases hk; exact⟨BR (hb.2 b rfl).1 g2.size,.inl O⟩,hR0,λV' hV' hv=>⟨⟨λ_=>⟨by simp[hiaD],by simp[hqD]⟩,.inr ⟨by simp[hiaD],b,(hV' ia hiaD).trans h2,by rw[hV' qv hqD]; simp⟩⟩,hkeep V' hV' (hnot _ (.inr O))⟩⟩
   ·have hil:i∈lks.map (·.1):=by simpa [hi,hi2] using hmq
    obtain⟨x,hx,rfl⟩:=BA.1 hil;obtain⟨l1,l2,l3,l4,l5,l6⟩:=hlx x hx;have hsD:x.2.1∈D:=hp x.2.1 (by rw[l4]; simp)
    have hs2:St M w0 (E x.2.1++e::H) w:=by
     have h9:St M w0 (e::(E x.2.1++H)) w:=by rw[l4] at hs; simpa using hs
     exact h9.perm B1.symm
    have hop2:=hlk x hx e (V x.2.1) (E x.2.1) (hR x.2.1 (by rw[l4]; simp)) w hs2;rw[l4];refine OpR.mono (by simpa using hop2) ?_;rintro v w' ⟨g1,g2,g3⟩;have heok:=hs.ok e Bt;refine⟨e,g1.mono (λ_ _ h=>h.elim),e.stable w w' (λk hk=>g1.same k (heok.2 k hk).1 λh=>h) heok.1,λb hb=>⟨BR (heok.2 b hb).1 g1.size,.inl hb⟩,g3,λV' hV' hv=>⟨⟨λh=>?_,?_⟩,λy hy hD=>?_⟩⟩
    ·have hj:js∈D:=by rcases A0.1 h with h|h; exact absurd h.symm l3; exact h
     exact⟨Ba _ (h0 hj).1,Ba _ (h0 hj).2⟩
    ·have hja:js∈x.1::D↔js∈D:=by simp[Ne.symm l3]
     have hia':ia∈x.1::D↔ia∈D:=by simp[Ne.symm l2]
     rcases hor with⟨h1,h2⟩|⟨h1,b,h2,h3⟩
     ·exact .inl ⟨λh=>h1 (hia'.1 h),h2⟩
     ·refine .inr ⟨hia'.2 h1,b,(hV' ia h1).trans h2,?_⟩;rw[h3]; congr 1; by_cases hj:js∈D
      ·rw[Bi hj,Bi (hja.2 hj),hV' qv (h0 hj).2]
      ·rw[Bc hj,Bc (λh=>hj (hja.1 h))]
    ·by_cases hyx:y.1=x.1
     ·by_cases hyD:y.1∈D
      ·exact absurd (hyx▸hyD) hni
      ·have hxy:y=x:=by
        obtain⟨m1,m2,m3,m4,m5,m6⟩:=hlx y hy;exact hfun y hy x hx hyx
       subst hxy;exact⟨Ba _ hsD,by rw[hv,g2,hV' _ hsD]⟩
     ·have hD':y.1∈D:=by rcases A0.1 hD with h|h; exact absurd h hyx; exact h
      obtain⟨g4,g5⟩:=hl y hy hD';exact⟨Ba _ g4,by rw[hV' _ hD',hV' _ g4]; exact g5⟩
 ·rintro D V E e a w hD ⟨⟨_,hor⟩,hl⟩ hR hf hs;have hiaD:ia∈D:=hD.mem_iff.2 (A6.2 hia);have hjsD:js∈D:=hD.mem_iff.2 (A6.2 hjs);rcases hor with⟨h1,_⟩|⟨_,b,h2,rfl⟩
  ·exact absurd hiaD h1
  rw[Bi hjsD] at hs
  have hE:(List.range m).flatMap E=((List.range m).filter λi=>!decide (i=js)).flatMap E:=by
   have:∀(is:List Nat),(∀i∈is,i<m)→is.flatMap E=(is.filter λi=>!decide (i=js)).flatMap E:=by
    intro is
    induction is with
    | nil=>intro _; rfl
    | cons i is ih=>
     intro h;have ih:=ih λj hj=>h j (by simp[hj])
     by_cases hi:i=js
     ·have h1:=hRs _ _ (hi▸hR i (h i sm));rw[B7 DE,Bv,←ih];have:E i=[]:=by rw[hi]; exact (hRs _ _ (hR js hjs)).2
      rw[this]; rfl
     ·rw[B6 DE,Bv,Bv,ih]
   exact this _ λi hi=>A6.1 hi
  rw[hE] at hs;have hok2:=hok;simp only[phOkM,AU,Be,AZ,A6,BE,List.contains_eq_mem,Bn] at hok2;have hnk:((List.range m).map (dsv l N)).Nodup:=hok2.1.1.2;refine HopK.use (V:=V) (E:=E) (hk V b h2 (λk x hkx=>have hx:=BW hkx; (hl x hx (hD.mem_iff.2 (A6.2 (hlx x hx).1))).2)) (λp hp=>⟨hR p (A6.1 (BG.1 hp).1),O⟩) a w ?_ Dv;rw[Bw,←hmap V _ (λp hp=>⟨A6.1 (BG.1 hp).1,by simpa using (BG.1 hp).2⟩)];refine hf.weaken λt v ht=>?_;cases hc:lk (((List.range m).filter λi=>!decide (i=js)).map λi=>(dsv l N i,V i)) t with
  | some u=>
   rw[bC hc] at ht;cases ht;have hmem:=bM hc;simp only[keys,Ca,BA] at hmem;obtain⟨i,hi,rfl⟩:=hmem;simp only[Function.comp_apply] at hc;have hn2:(((List.range m).filter λi=>!decide (i=js)).map (dsv l N)).Nodup:=hnk.sublist (List.Sublist.map _ List.filter_sublist);rw[cU (ds:=dsv l N) (V:=V) hn2 hi] at hc;cases hc;exact bC (cU (ds:=dsv l N) (V:=V) hnk (BG.1 hi).1)
  | none=>
   rw[bD hc] at ht;rw[bD]
   ·exact ht
   ·refine cO λi hi e=>?_;have:=(hok2.1.1.1.2 i (A6.1 hi)).1.1.2;have hk':=bM ht;rw[←e] at hk';exact this hk'
end
def tupAt (u:Value) (k:Nat):Value:=match u with
 | .tuple vs=>vs.getD k undef
 | _=>undef
end Go.PW
namespace Go.Proofs
open Go.Shelf
def Tryz.lays156_ren:Go.Shelf.Ren:=⟨λ|156=>198|165=>202|166=>94|169=>95|240=>142|241=>204|276=>179|277=>205|n=>n,λ|31=>44|9=>9|3=>3|4=>4|0=>0|20=>20|72=>160|76=>167|70=>158|37=>60|75=>166|127=>205|164=>235|5=>5|80=>169|n=>n,λ|n=>n⟩
theorem Tryz.lays156:Go.Proofs.Lays.n156 Tryz.prog Tryz.lays156_ren:={
 mixed:=by kernel_rfl
 f156:=Tryz.func198.trans (Bh some kr)
 f165:=Tryz.func202.trans (Bh some kr)
 f166:=Tryz.func94.trans (Bh some kr)
 f169:=Tryz.func95.trans (Bh some kr)
 f240:=Tryz.func142.trans (Bh some kr)
 f241:=Tryz.func204.trans (Bh some kr)
 f276:=Tryz.func179.trans (Bh some kr)
 f277:=Tryz.func205.trans (Bh some kr)
 t0:=Tryz.underlying0
 a0:=Tryz.isAgg0
 z0:=Tryz.sizeOf0
 v0:=Tryz.zeroValue0
 t3:=Tryz.underlying3
 a3:=Tryz.isAgg3
 z3:=Tryz.sizeOf3
 v3:=Tryz.zeroValue3
 t4:=Tryz.underlying4
 a4:=Tryz.isAgg4
 z4:=Tryz.sizeOf4
 v4:=Tryz.zeroValue4
 t9:=Tryz.underlying9
 a9:=Tryz.isAgg9
 z9:=Tryz.sizeOf9
 v9:=Tryz.zeroValue9
 t20:=Tryz.underlying20
 a20:=Tryz.isAgg20
 z20:=Tryz.sizeOf20
 v20:=Tryz.zeroValue20
 t31:=Tryz.underlying44
 a31:=Tryz.isAgg44
 z31:=Tryz.sizeOf44
 v31:=Tryz.zeroValue44
 t37:=Tryz.underlying60
 a37:=Tryz.isAgg60
 z37:=Tryz.sizeOf60
 v37:=Tryz.zeroValue60
 t70:=Tryz.underlying158
 a70:=Tryz.isAgg158
 z70:=Tryz.sizeOf158
 v70:=Tryz.zeroValue158
 t72:=Tryz.underlying160
 a72:=Tryz.isAgg160
 z72:=Tryz.sizeOf160
 v72:=Tryz.zeroValue160
 t75:=Tryz.underlying166
 a75:=Tryz.isAgg166
 z75:=Tryz.sizeOf166
 v75:=Tryz.zeroValue166
 t76:=Tryz.underlying167
 a76:=Tryz.isAgg167
 z76:=Tryz.sizeOf167
 v76:=Tryz.zeroValue167
 t127:=Tryz.underlying205
 a127:=Tryz.isAgg205
 z127:=Tryz.sizeOf205
 v127:=Tryz.zeroValue205
 t164:=Tryz.underlying235
 a164:=Tryz.isAgg235
 z164:=Tryz.sizeOf235
 v164:=Tryz.zeroValue235}
theorem Tryz.Builder_Extra_156:Builder.Extra Tryz.prog Tryz.lays156_ren:={
 sizeBuilder:=by kernel_rfl
 liesBuilder:=by kernel_rfl
 t5:=Tryz.underlying5
 a5:=Tryz.isAgg5
 z5:=Tryz.sizeOf5
 v5:=Tryz.zeroValue5
 infoByte:=by kernel_rfl
 cellsByte:=by kernel_rfl
 sizeByte:=by kernel_rfl
 neB5:=by decide}
open Go.RowKit in
theorem Tryz.strings_Join_none (a:Option Addr) (c:Nat) (sep:ByteArray) (w:World):
  Calls Tryz.prog 198 #[.slice a 0 c,.string sep] w λe w'=>e=.returned (.string ⟨#[]⟩)∧w'=w:=Any.strings_Join_none Tryz.lays156 Tryz.Builder_Extra_156 a c sep w
open Go.RowKit in
theorem Tryz.strings_Join (bk o c:Nat) (xs:List ByteArray) (sep:ByteArray) (w:World) (hcells:∀(j:Nat) x,xs[j]?=some x→w.cell? ⟨bk,o+j,none⟩=some (.string x)) (hbk:bk<w.heap.size) (hN:xs.length≤140737488355328) (hcap:xs.length≤c) (hlen:(Lib.join (xs.map (·.data.toList)) sep.data.toList).length≤140737488355328):
  Calls Tryz.prog 198 #[.slice (some ⟨bk,o,none⟩) xs.length c,.string sep] w λe w'=>e=.returned (.string ⟨(Lib.join (xs.map (·.data.toList)) sep.data.toList).toArray⟩)∧Below w.heap.size w w':=Any.strings_Join Tryz.lays156 Tryz.Builder_Extra_156 bk o c xs sep w hcells hbk hN hcap hlen
def Tryz.lays125_ren:Go.Shelf.Ren:=⟨λ|125=>171|128=>195|129=>196|n=>n,λ|46=>191|3=>3|51=>206|53=>190|4=>4|5=>5|9=>9|n=>n,λ|n=>n⟩
theorem Tryz.lays125:Go.Proofs.Lays.n125 Tryz.prog Tryz.lays125_ren:={
 mixed:=by kernel_rfl
 f125:=Tryz.func171.trans (Bh some kr)
 f128:=Tryz.func195.trans (Bh some kr)
 f129:=Tryz.func196.trans (Bh some kr)
 t3:=Tryz.underlying3
 a3:=Tryz.isAgg3
 z3:=Tryz.sizeOf3
 v3:=Tryz.zeroValue3
 t4:=Tryz.underlying4
 a4:=Tryz.isAgg4
 z4:=Tryz.sizeOf4
 v4:=Tryz.zeroValue4
 t5:=Tryz.underlying5
 a5:=Tryz.isAgg5
 z5:=Tryz.sizeOf5
 v5:=Tryz.zeroValue5
 t9:=Tryz.underlying9
 a9:=Tryz.isAgg9
 z9:=Tryz.sizeOf9
 v9:=Tryz.zeroValue9
 t46:=Tryz.underlying191
 a46:=Tryz.isAgg191
 z46:=Tryz.sizeOf191
 v46:=Tryz.zeroValue191
 t51:=Tryz.underlying206
 a51:=Tryz.isAgg206
 z51:=Tryz.sizeOf206
 v51:=Tryz.zeroValue206
 t53:=Tryz.underlying190
 a53:=Tryz.isAgg190
 z53:=Tryz.sizeOf190
 v53:=Tryz.zeroValue190}
theorem Tryz.bits_Len (x:Int) (w:World) (h0:0≤x) (h1:x≤18446744073709551615):
  Calls Tryz.prog 171 #[.int .u64 x] w λe w'=>e=.returned (.int .i64 (Lib.bitLen x.toNat))∧w'=w:=Any.bits_Len Tryz.lays125 x w h0 h1
def Tryz.laysNm217_ren:Go.Shelf.Ren:=⟨λ|17=>127|n=>n,λ|24=>44|9=>9|3=>3|4=>4|0=>0|n=>n,λ|n=>n⟩
theorem Tryz.laysNm217:Go.Proofs.Lays2.n17 Tryz.prog Tryz.laysNm217_ren:={
 mixed:=by kernel_rfl
 f17:=Tryz.func127.trans (Bh some kr)
 t0:=Tryz.underlying0
 a0:=Tryz.isAgg0
 z0:=Tryz.sizeOf0
 v0:=Tryz.zeroValue0
 t3:=Tryz.underlying3
 a3:=Tryz.isAgg3
 z3:=Tryz.sizeOf3
 v3:=Tryz.zeroValue3
 t4:=Tryz.underlying4
 a4:=Tryz.isAgg4
 z4:=Tryz.sizeOf4
 v4:=Tryz.zeroValue4
 t9:=Tryz.underlying9
 a9:=Tryz.isAgg9
 z9:=Tryz.sizeOf9
 v9:=Tryz.zeroValue9
 t24:=Tryz.underlying44
 a24:=Tryz.isAgg44
 z24:=Tryz.sizeOf44
 v24:=Tryz.zeroValue44}
open Go.RowKit Go.Lib Go.Sort in
theorem Tryz.slices_Reverse_string (blk off cap:Nat) (zs:List (List UInt8)) (w:World) (hH:Holds encStr w blk off zs.toArray) (hsz:zs.length≤9223372036854775807):
  Calls Tryz.prog 127 #[.slice (some ⟨blk,off,none⟩) zs.length cap] w λe w'=>e=.returned (.tuple #[])∧∃n,w'=putRow encStr (Sort.ahead w n) blk off zs.reverse.toArray:=Any.slices_Reverse_string Tryz.laysNm217 blk off cap zs w hH hsz
open Go.RowKit Go.Lib Go.Sort in
theorem Tryz.slices_Reverse_string_empty (a:Option Addr) (cap:Nat) (w:World):
  Calls Tryz.prog 127 #[.slice a 0 cap] w λe w'=>e=.returned (.tuple #[])∧w'=w:=Any.slices_Reverse_string_empty Tryz.laysNm217 a cap w
end Go.Proofs
namespace Go.Proofs.YtliklcmddmpdfaaGreatDoor
open Go.RowKit Go.PW _root_.Go.Proofs.Tryz
theorem Ax (x:Wd) (n:Nat) (w0:World) (hn:0<n) (hn2:n<32):
  Ff 203 #[wv x,jv (-(n:Int))] w0 (wv (ror x n)):=by
 refine Cx func203 O ntmps203 (lb O) λa Y U=>aa λG1=>wla Y O λa Y=>G1<|aa λG2=>nv Y<|AL O<|AK (eD O kr underlying191)<|AK ((wH (n:=((-(n:Int))%18446744073709551616).toNat) om O O).asi (m':=((32- n:Nat):Int)) om)<|AM O<|λa Y=>G2<|aa λG3=>nv Y<|AL O<|AL O<|AK (gE (n:=(32- n)) O O)<|AL O<|AL O<|AK ((wg (m:=32) (n:=32- n) om om O O).asi (m':=(n:Int)) om)<|AK (fL (n:=n) O O)<|AK (kR O O)<|AM O<|λa Y=>G3 ?_;replace Y:=Y.p1 4 O;refine ao<|am Y results203 (ae O ag) ?_;exact⟨by simp only[retv,ror],U.ext⟩
theorem jr (x:Wd) (lv:Value) (ns:List Nat) (w0:World) (hlv:SlAt w0 lv 1 (ns.map λn:Nat=>[jv (n:Int)])) (hns:∀n∈ns,0<n∧n<32):
  Ff 201 #[wv x,lv] w0 (wv (mix x ns)):=by
 have hnl:=hlv.le;rw[AP] at hnl;refine Cx func201 O ntmps201 (lb O) λa Y U=>aa λG1=>wla Y O λa Y=>G1<|aa λG2=>wla Y O λa Y=>G2<|ah λG3=>aa λG4=>nv Y<|AL O<|AK ((aH (sT:=24) (U.arg hlv) O O (runUnderlying24 _)).asi (m':=(ns.length:Int)) sm)<|AL O<|λa Y=>G4<|aw<|aV (λm a w=>∃(k:Nat),m=ns.length- k∧(k≤ns.length)∧Fr 22 [(0,wv x),(4,wv (0#32)),(8,lv),(9,jv (ns.length:Int)),(10,jv (k:Int)),(5,wv (mix x (ns.take k)))] [] a∧St No w0 [] w) _ ⟨0,O,A8 _,Y.pick [0,4,8,9,10,5],U.select [] de⟩ ?_;rintro _ a w1 ⟨k,rfl,hk,Y,U⟩;refine aa λG5=>wlv Y (v_lt O O) λa Y=>G5<|ah λG6=>ay Y O (λhc1=>?_) (λhc1=>?_)
 ·have hkl:k<ns.length:=by omega
  obtain⟨n,hn⟩:∃n,ns.getD k 0=n:=⟨_,rfl⟩;have hnb:0<n∧n<32:=hns n (by rw[←hn]; simp[AY,A2 hkl])
  have hst2:mix x (ns.take (k+1))=mix x (ns.take k) ^^^ ror x n:=by
   rw[mix,mix,List.take_succ_eq_append_getElem hkl,List.foldl_append];have:ns[k]=n:=by rw[←hn]; simp[AY,A2 hkl]
   rw[this]; rfl
  refine ap<|G6<|ah λG7=>aw<|aa λG8=>nv Y<|AK ((ai (i:=(k:Int)) (sT:=24) (U.arg hlv) O O (runUnderlying24 _) (sizeOf3 _) om (by simpa using hkl)).as (v':=slAddr lv (k*1)) O)<|AK (az (u:=jv (n:Int)) (i:=k) (j:=0) (U.arg hlv) (by simpa using hkl) O (isAgg3 _) (by rw[←hn]; simp[AY,A2 hkl]))<|AM O<|λa Y=>G8<|al<|nv Y<|AL O<|AL O<|AL O<|AK (kD O om om)<|λa Y=>au Y U call203 O (Ax x n _ hnb.1 hnb.2) λa w2 Y U=>nv Y<|AK (dK O O)<|AM O<|λa Y=>ab<|G7<|al<|nv (Y.p6 0 4 8 9 10 5 O)<|AK (aK O O ⟨om,om⟩)<|AL O<|λa Y=>ab ?_;rw[←hst2] at Y;refine⟨_,?_,k+1,O,om,Y.pick [0,4,8,9,10,5],U.select [] de⟩;omega
 have hke:ns.take k=ns:=BS om;rw[hke] at Y;refine aN<|G3<|aa λG9=>nv Y<|AL O<|AM O<|λa Y=>G9 ?_;replace Y:=Y.p1 4 O;refine ao<|am Y results201 (ae O ag) ?_;exact⟨O,U.ext⟩
theorem qI (bv:Value) (bs:List UInt8) (w0:World) (hbv:SlAt w0 bv 1 (bs.map λb=>[yv b])) (hbl:bs.length=64):
  Ff 200 #[bv] w0 (.agg ((sch bs 64).map wv).toArray):=by
 refine Cy func200 O ntmps200 (lb O) λa Y U=>aa λG1=>aE Y U (zeroValue258 _) ((List.replicate 64 0#32).map wv) kr λa w1 Y U=>G1<|ah λG2=>aa λG3=>wlm Y O λa Y=>G3<|aw<|aV (λm a w=>∃(k:Nat),m=16- k∧(k≤16)∧Fr 84 [(0,bv),(2,pq w0.hz),(7,jv (k:Int))] [] a∧St No w0 [blk w0.hz ((sch bs k).map wv) 258] w) _ ⟨0,O,A8 _,Y.pick [0,2,7],U.select [0] de⟩ ?_;rintro _ a w2 ⟨k,rfl,hk,Y,U⟩;refine aa λG4=>wlv Y (v_lt O O) λa Y=>G4<|ah λG5=>ay Y O (λhc1=>?_) (λhc1=>?_)
 ·refine ap<|G5<|ah λG6=>aw<|aa λG7=>nv Y<|AL O<|AM O<|λa Y=>G7<|aL (aM λw3 hxz=>?_);replace U:=U.grow hxz;refine aP (k:=0) 34 [0,33] Y ?_;replace Y:=Y.p5 0 2 7 9 3 O;refine bB 34 Y U<|pl_m O<|pl_m O<|pl_m O<|pl_v (ey O O ⟨om,om⟩)<|pl_w (λU=>(ai (i:=4*(k:Int)) (sT:=60) (U.arg hbv) O O (runUnderlying60 _) (sizeOf5 _) om Df).as (v':=slAddr bv ((4*k)*1)) (by rw[show (4*(k:Int)).toNat=(4*k) from by omega]))<|pl_w (λU=>az (u:=yv (bs.getD (4*k) 0)) (i:=(4*k)) (j:=0) (U.arg hbv) Df O (isAgg5 _) (by simp[AY,A2 (show (4*k)<bs.length by omega)]))<|pl_v (dY O kr underlying206)<|pl_v (gE (n:=24) O O)<|pl_m O<|pl_m O<|pl_v (ey O O ⟨om,om⟩)<|pl_v (aK O O ⟨om,om⟩) ?_;refine pl_w (λU=>(ai (i:=(4*(k:Int))+1) (sT:=60) (U.arg hbv) O O (runUnderlying60 _) (sizeOf5 _) om Df).as (v':=slAddr bv (((4*k)+1)*1)) (by rw[show ((4*(k:Int))+1).toNat=((4*k)+1) from by omega]))<|pl_w (λU=>az (u:=yv (bs.getD ((4*k)+1) 0)) (i:=((4*k)+1)) (j:=0) (U.arg hbv) Df O (isAgg5 _) (by simp[AY,A2 (show ((4*k)+1)<bs.length by omega)]))<|pl_v (dY O kr underlying206)<|pl_v (gE (n:=16) O O)<|pl_v (kR O O)<|pl_m O<|pl_m O<|pl_v (ey O O ⟨om,om⟩)<|pl_v (aK O O ⟨om,om⟩) ?_;refine pl_w (λU=>(ai (i:=(4*(k:Int))+2) (sT:=60) (U.arg hbv) O O (runUnderlying60 _) (sizeOf5 _) om Df).as (v':=slAddr bv (((4*k)+2)*1)) (by rw[show ((4*(k:Int))+2).toNat=((4*k)+2) from by omega]))<|pl_w (λU=>az (u:=yv (bs.getD ((4*k)+2) 0)) (i:=((4*k)+2)) (j:=0) (U.arg hbv) Df O (isAgg5 _) (by simp[AY,A2 (show ((4*k)+2)<bs.length by omega)]))<|pl_v (dY O kr underlying206)<|pl_v (gE (n:=8) O O)<|pl_v (kR O O)<|pl_m O<|pl_m O<|pl_v (ey O O ⟨om,om⟩)<|pl_v (aK O O ⟨om,om⟩) ?_;refine pl_w (λU=>(ai (i:=(4*(k:Int))+3) (sT:=60) (U.arg hbv) O O (runUnderlying60 _) (sizeOf5 _) om Df).as (v':=slAddr bv (((4*k)+3)*1)) (by rw[show ((4*(k:Int))+3).toNat=((4*k)+3) from by omega]))<|pl_w (λU=>az (u:=yv (bs.getD ((4*k)+3) 0)) (i:=((4*k)+3)) (j:=0) (U.arg hbv) Df O (isAgg5 _) (by simp[AY,A2 (show ((4*k)+3)<bs.length by omega)]))<|pl_v (dY O kr underlying206)<|pl_v (kR O O) ?_;clear Y U;intro a w4 Y U;replace Y:=Y.p5 0 2 7 10 43 O;refine ab<|aI (k:=34) 36 [35] ?_;refine wlv Y ((cb (n:=64) (i:=(k:Int)) O O (runUnderlying258 _) (sizeOf206 _) om om).as (v':=.pointer (some ⟨w0.hz,k,none⟩)) (by rw[show 0+((k:Int):Int).toNat=k from by omega])) λa Y=>fB (f:=wv) (z:=((((BitVec.ofNat 32 (bs.getD (4*k) 0).toNat) <<< 24) ||| ((BitVec.ofNat 32 (bs.getD ((4*k)+1) 0).toNat) <<< 16)) ||| ((BitVec.ofNat 32 (bs.getD ((4*k)+2) 0).toNat) <<< 8)) ||| (BitVec.ofNat 32 (bs.getD ((4*k)+3) 0).toNat)) 0 Y U O O O (sizeOf206 _) O O (by have:=(aT bs k); omega) O λa w5 Y U=>ab<|aO<|G6<|al<|nv Y<|AK (aK O O ⟨om,om⟩)<|AL O<|λa Y=>ab ?_;rw[show (sch bs k).set k (((((BitVec.ofNat 32 (bs.getD (4*k) 0).toNat) <<< 24) ||| ((BitVec.ofNat 32 (bs.getD ((4*k)+1) 0).toNat) <<< 16)) ||| ((BitVec.ofNat 32 (bs.getD ((4*k)+2) 0).toNat) <<< 8)) ||| (BitVec.ofNat 32 (bs.getD ((4*k)+3) 0).toNat))=sch bs (k+1) from by rw[sch,Bi om,be]] at U;refine⟨_,?_,k+1,O,om,Y.pick [0,2,7],U.select [0] de⟩
  omega
 obtain rfl:k=16:=by omega
 refine aN<|G2<|ah λG8=>aa λG9=>wla Y O λa Y=>G9<|aw<|aV (λm a w=>∃(j:Nat),m=64- j∧(16≤j)∧(j≤64)∧Fr 84 [(2,pq w0.hz),(4,jv (j:Int))] [] a∧St No w0 [blk w0.hz ((sch bs j).map wv) 258] w) _ ⟨16,O,om,om,Y.pick [2,4],U.select [0] de⟩ ?_;rintro _ a w6 ⟨j,rfl,hj,hj2,Y,U⟩;refine ah λG10=>aa λG11=>nv Y<|AL O<|AK (v_lt O O)<|λa Y=>G11<|ay Y O (λhc2=>?_) (λhc2=>?_)
 ·refine ap<|G10<|ah λG12=>aw<|ah λG13=>aL (aM λw7 hxz=>?_);replace U:=U.grow hxz;refine aP (k:=0) 9 [7,8] Y ?_;replace Y:=Y.p3 2 4 46 O;refine bB 9 Y U<|pl_m O<|pl_v (bF O O ⟨om,om⟩)<|pl_v ((cb (n:=64) (i:=(j:Int)- 15) O O (runUnderlying258 _) (sizeOf206 _) om om).as (v':=.pointer (some ⟨w0.hz,(j- 15),none⟩)) (by rw[show 0+((j:Int)- 15:Int).toNat=(j- 15) from by omega]))<|pl_w (λU=>bX (U.g 0 O) O (isAgg206 _) (eW (d:=0#32) D0))<|pl_m O<|pl_v (bF O O ⟨om,om⟩)<|pl_v ((cb (n:=64) (i:=(j:Int)- 2) O O (runUnderlying258 _) (sizeOf206 _) om om).as (v':=.pointer (some ⟨w0.hz,(j- 2),none⟩)) (by rw[show 0+((j:Int)- 2:Int).toNat=(j- 2) from by omega])) ?_;refine pl_w (λU=>bX (U.g 0 O) O (isAgg206 _) (eW (d:=0#32) D0))<|pl_v (cH O) λa w8 Y U=>?_;replace Y:=Y.p4 2 4 57 5 O;refine ab<|aI (k:=9) 10 [9] ?_;refine wla Y O λa Y=>ab<|aO<|G13<|aL (aM λw9 hxz=>?_);replace U:=U.grow hxz;refine aP (k:=0) 24 [0,23] Y ?_;replace Y:=Y.p5 2 4 57 5 6 O;refine bE [6,18] (λi=>match i with|6=>pm (λb:Nat=>.slice (some ⟨b,0,none⟩) 2 2) (λb=>[own (.slice (some ⟨b,0,none⟩) 2 2) 3 1 [[jv 7],[jv 18]]]) (λ_=>True)|18=>pm (λb:Nat=>.slice (some ⟨b,0,none⟩) 2 2) (λb=>[own (.slice (some ⟨b,0,none⟩) 2 2) 3 1 [[jv 17],[jv 19]]]) (λ_=>True)|_=>λ_ _=>False) 24 [[],[],[1],[2],[3],[],[],[5,6],[],[8],[7,9],[4,10],[],[12],[13],[14],[11,15],[],[],[17,18],[],[20],[19,21],[16,22]] [jv (j:Int),jv (j:Int),jv ((j:Int)- 16),.pointer (some ⟨w0.hz,(j- 16),none⟩),wv ((sch bs j).getD (j- 16) 0#32),wv ((sch bs j).getD (j- 15) 0#32),undef,wv (mix ((sch bs j).getD (j- 15) 0#32) [7,18]),wv ((sch bs j).getD (j- 15) 0#32),wv (((sch bs j).getD (j- 15) 0#32) >>> 3),wv ((mix ((sch bs j).getD (j- 15) 0#32) [7,18]) ^^^ (((sch bs j).getD (j- 15) 0#32) >>> 3)),wv (((sch bs j).getD (j- 16) 0#32)+((mix ((sch bs j).getD (j- 15) 0#32) [7,18]) ^^^ (((sch bs j).getD (j- 15) 0#32) >>> 3))),jv (j:Int),jv ((j:Int)- 7),.pointer (some ⟨w0.hz,(j- 7),none⟩),wv ((sch bs j).getD (j- 7) 0#32),wv ((((sch bs j).getD (j- 16) 0#32)+((mix ((sch bs j).getD (j- 15) 0#32) [7,18]) ^^^ (((sch bs j).getD (j- 15) 0#32) >>> 3)))+((sch bs j).getD (j- 7) 0#32)),wv ((sch bs j).getD (j- 2) 0#32),undef,wv (mix ((sch bs j).getD (j- 2) 0#32) [17,19]),wv ((sch bs j).getD (j- 2) 0#32),wv (((sch bs j).getD (j- 2) 0#32) >>> 10),wv ((mix ((sch bs j).getD (j- 2) 0#32) [17,19]) ^^^ (((sch bs j).getD (j- 2) 0#32) >>> 10)),wv (((((sch bs j).getD (j- 16) 0#32)+((mix ((sch bs j).getD (j- 15) 0#32) [7,18]) ^^^ (((sch bs j).getD (j- 15) 0#32) >>> 3)))+((sch bs j).getD (j- 7) 0#32))+((mix ((sch bs j).getD (j- 2) 0#32) [17,19]) ^^^ (((sch bs j).getD (j- 2) 0#32) >>> 10)))] Y U ?_ ?_ ?_
  ·intro i hi hiq
   match i,hi,hiq with
   | 0,_,_=>exact λw U=>OpV.g (ax O)
   | 1,_,_=>exact λw U=>OpV.g (ax O)
   | 2,_,_=>exact λw U=>OpV.g (bF O O ⟨om,om⟩)
   | 3,_,_=>exact λw U=>OpV.g ((cb (n:=64) (i:=(j:Int)- 16) O O (runUnderlying258 _) (sizeOf206 _) om om).as (v':=.pointer (some ⟨w0.hz,(j- 16),none⟩)) (by rw[show 0+((j:Int)- 16:Int).toNat=(j- 16) from by omega]))
   | 4,_,_=>exact λw U=>OpV.g (bX (U.g 0 O) O (isAgg206 _) (eW (d:=0#32) D0))
   | 5,_,_=>exact λw U=>OpV.g (ax O)
   | 6,_,h=>exact absurd sm h
   | 7,_,_=>
    rintro _ _ ⟨b3,rfl, -,rfl⟩;intro w U;exact bu call201 O (jr ((sch bs j).getD (j- 15) 0#32) (.slice (some ⟨b3,0,none⟩) 2 2) [7,18] _ (U.ow 0 O) de)
   | 8,_,_=>exact λw U=>OpV.g (ax O)
   | 9,_,_=>exact λw U=>OpV.g (fL (n:=3) O O)
   | 10,_,_=>exact λw U=>OpV.g (dK O O)
   | 11,_,_=>exact λw U=>OpV.g (db O O)
   | 12,_,_=>exact λw U=>OpV.g (ax O)
   | 13,_,_=>exact λw U=>OpV.g (bF O O ⟨om,om⟩)
   | 14,_,_=>exact λw U=>OpV.g ((cb (n:=64) (i:=(j:Int)- 7) O O (runUnderlying258 _) (sizeOf206 _) om om).as (v':=.pointer (some ⟨w0.hz,(j- 7),none⟩)) (by rw[show 0+((j:Int)- 7:Int).toNat=(j- 7) from by omega]))
   | 15,_,_=>exact λw U=>OpV.g (bX (U.g 0 O) O (isAgg206 _) (eW (d:=0#32) D0))
   | 16,_,_=>exact λw U=>OpV.g (db O O)
   | 17,_,_=>exact λw U=>OpV.g (ax O)
   | 18,_,h=>exact absurd sm h
   | 19,_,_=>
    rintro _ _ ⟨b4,rfl, -,rfl⟩;intro w U;exact bu call201 O (jr ((sch bs j).getD (j- 2) 0#32) (.slice (some ⟨b4,0,none⟩) 2 2) [17,19] _ (U.ow 0 O) de)
   | 20,_,_=>exact λw U=>OpV.g (ax O)
   | 21,_,_=>exact λw U=>OpV.g (fL (n:=10) O O)
   | 22,_,_=>exact λw U=>OpV.g (dK O O)
   | 23,_,_=>exact λw U=>OpV.g (db O O)
   | i+24,h,_=>exact absurd h om
  ·intro i hi;simp only[A0,A4,Bm] at hi;rcases hi with rfl|rfl
   ·intro w U;exact bL (E:=3) (sz:=1) O [[jv 7],[jv 18]] (λ_=>by kernel_rfl) sm O de
   ·intro w U;exact bL (E:=3) (sz:=1) O [[jv 17],[jv 19]] (λ_=>by kernel_rfl) sm O de
  clear Y U;rintro _ _ ⟨b3,rfl, -,rfl⟩ _ _ ⟨b4,rfl, -,rfl⟩ a w10 Y U;replace Y:=Y.p4 58 81 2 4 O;replace U:=U.n3 O;refine ab<|aI (k:=24) 26 [25] ?_;refine wlv Y ((cb (n:=64) (i:=(j:Int)) O O (runUnderlying258 _) (sizeOf206 _) om om).as (v':=.pointer (some ⟨w0.hz,j,none⟩)) DD) λa Y=>fB (f:=wv) (z:=((((sch bs j).getD (j- 16) 0#32)+((mix ((sch bs j).getD (j- 15) 0#32) [7,18]) ^^^ (((sch bs j).getD (j- 15) 0#32) >>> 3)))+((sch bs j).getD (j- 7) 0#32))+((mix ((sch bs j).getD (j- 2) 0#32) [17,19]) ^^^ (((sch bs j).getD (j- 2) 0#32) >>> 10))) 2 Y U O O O (sizeOf206 _) O O D0 O λa w11 Y U=>ab<|aO<|G12 ?_;replace U:=U.k1 4 O;refine al<|nv (Y.p2 2 4 O)<|AL O<|AK (aK O O ⟨om,om⟩)<|AM O<|λa Y=>ab ?_;rw[show (sch bs j).set j (((((sch bs j).getD (j- 16) 0#32)+((mix ((sch bs j).getD (j- 15) 0#32) [7,18]) ^^^ (((sch bs j).getD (j- 15) 0#32) >>> 3)))+((sch bs j).getD (j- 7) 0#32))+((mix ((sch bs j).getD (j- 2) 0#32) [17,19]) ^^^ (((sch bs j).getD (j- 2) 0#32) >>> 10)))=sch bs (j+1) from by rw[sch,Bc om,nx]] at U;refine⟨_,?_,j+1,O,om,om,Y.pick [2,4],U.select [0] de⟩;omega
 obtain rfl:j=64:=by omega
 refine aN<|G8<|aa λG14=>wlv Y (ar (U.g 0 O) O (isAgg258 _) (by rw[AP,(aT bs 64)]; exact sizeOf258 _)) λa Y=>jG 0 Y U O O O (sizeOf258 _) (aT bs 64) (aT bs 64) O λa w12 Y U=>G14<|ao<|am Y results200 (aB O (bA (U.g 0 O) (isAgg258 _) (by rw[AP,(aT bs 64)]; exact sizeOf258 _)) ag) ?_;exact⟨by rfl,U.ext⟩
def addTo (x y:W8):Nat→List Wd
 | 0=>x.l
 | j+1=>(addTo x y j).set j (x.l.getD j 0#32+y.l.getD j 0#32)
theorem nM (x y:W8) (j:Nat):(addTo x y j).length=8:=by
 induction j with
 | zero=>rfl
 | succ j ih=>rw[addTo,Cj,ih]
theorem qF (x y:W8) {k:Nat}:∀j,j≤k→(addTo x y j).getD k 0#32=x.l.getD k 0#32
 | 0,_=>rfl
 | j+1,h=>by
  rw[addTo,AY,List.getElem?_set_ne om,←AY];exact qF x y j om
theorem uU {x y:W8} {j:Nat} (h:j<8):(addTo x y j).getD j 0#32=x.l.getD j 0#32:=qF x y j (Bs _)
theorem uH (x y:W8):addTo x y 8=(x.add y).l:=rfl
theorem Al (b:Nat) (hv:W8) (bv:Value) (bs:List UInt8) (w0:World) (hb:(blk b [wv hv.a,wv hv.b,wv hv.c,wv hv.d,wv hv.e,wv hv.f,wv hv.g,wv hv.h] 246).ok w0) (hk0:(blk 0 (kOf.map wv) 258).ok w0) (hb0:¬(0=b)) (hbv:SlAt w0 bv 1 (bs.map λb=>[yv b])) (hbl:bs.length=64) (hnb:∀k,slBlk bv=some k→¬(k=b)):
  Ret Tryz.prog 192 #[pq b,bv] w0 λv w=>v=.tuple #[]∧Ext (·=b) w0 w∧(blk b ((block hv bs).l.map wv) 246).ok w:=by
 refine aD func192 O ntmps192 (lb O) λa Y=>?_;replace U:St (·=b) w0 [blk b [wv hv.a,wv hv.b,wv hv.c,wv hv.d,wv hv.e,wv hv.f,wv hv.g,wv hv.h] 246] w0:=St.one hb;refine aa λG1=>wlm (Y.p2 0 1 O) O λa Y=>au Y U call200 O (qI bv bs _ (hbv.ext U.ext hnb) hbl) λa w1 Y U=>aE Y U (zeroValue258 _) ((List.replicate 64 0#32).map wv) kr λa w2 Y U=>jG 0 Y U O O O (sizeOf258 _) (aT bs 64) (B3:(List.replicate 64 0#32).length=64) O λa w3 Y U=>G1<|aa λG2=>nv Y<|AL O<|AK (aX O)<|AK (ar (U.g 1 O) O (isAgg246 _) (sizeOf246 _))<|λa Y=>aE Y U (zeroValue246 _) [wv (0#32),wv (0#32),wv (0#32),wv (0#32),wv (0#32),wv (0#32),wv (0#32),wv (0#32)] O λa w4 Y U=>aA 0 Y U [wv hv.a,wv hv.b,wv hv.c,wv hv.d,wv hv.e,wv hv.f,wv hv.g,wv hv.h] O (sizeOf246 _) λa w5 Y U=>G2 ?_;refine ah λG3=>aa λG4=>nv (Y.p3 0 4 5 O)<|AK (ar (U.keepM hk0 hb0) O (isAgg258 _) (by rw[AP,bW]; exact sizeOf258 _))<|AL O<|λa Y=>G4<|aw<|aV (λm a w=>∃(k:Nat) (v:W8),m=64- k∧(k≤64)∧(rounds (sch bs 64) hv k=v)∧Fr 97 [(0,pq b),(4,pq w1.hz),(5,pq w3.hz),(18,.agg (kOf.map wv).toArray),(19,jv (k:Int))] [] a∧St (·=b) w0 [blk w3.hz [wv v.a,wv v.b,wv v.c,wv v.d,wv v.e,wv v.f,wv v.g,wv v.h] 246,blk w1.hz ((sch bs 64).map wv) 258,blk b [wv hv.a,wv hv.b,wv hv.c,wv hv.d,wv hv.e,wv hv.f,wv hv.g,wv hv.h] 246] w) _ ⟨0,hv,O,A8 _,O,Y.pick [0,4,5,18,19],U.select [0,1,2] de⟩ ?_;rintro _ a w6 ⟨k,v,rfl,hk,hrv,Y,U⟩;refine aa λG5=>wlv Y (v_lt O O) λa Y=>G5<|ah λG6=>ay Y O (λhc1=>?_) (λhc1=>?_)
 ·refine ap<|G6<|ah λG7=>aw<|aa λG8=>nv Y<|AL O<|AK (kT (cs:=kOf.map wv) (i:=(k:Int)) O O (runUnderlying258 _) (sizeOf206 _) (isAgg206 _) om om (by rw[show ((k:Int):Int).toNat=k from by omega]; exact eW (d:=0#32) (by have:=bW; omega)))<|AM O<|AM O<|λa Y=>G8<|ah λG9=>aL (aM λw7 hxz=>?_);replace U:=U.grow hxz;refine aP (k:=0) 5 [3,4] Y ?_;refine bB 5 (Y.p9 0 4 5 18 19 21 22 6 7 O) U<|pl_v (aS (v:=pq w3.hz) O O kr)<|pl_w (λU=>ld U 0 O O (isAgg206 _) O)<|pl_v (aS (v:=po w3.hz 4) O O kr)<|pl_w (λU=>ld U 0 O O (isAgg206 _) O)<|pl_v (cH O) λa w8 Y U=>?_;replace Y:=Y.p9 0 4 5 18 19 6 7 26 8 O;refine ab<|aI (k:=5) 6 [5] ?_;refine wla Y O λa Y=>ab<|aO<|G9<|ah λG10=>aL (aM λw9 hxz=>?_);replace U:=U.grow hxz;refine aP (k:=0) 22 [18,21] Y ?_;replace Y:=Y.p10 0 4 5 18 19 6 7 26 8 9 O;refine bE [3] (λi=>match i with|3=>pm (λb:Nat=>.slice (some ⟨b,0,none⟩) 3 3) (λb=>[own (.slice (some ⟨b,0,none⟩) 3 3) 3 1 [[jv 6],[jv 11],[jv 25]]]) (λ_=>True)|_=>λ_ _=>False) 22 [[],[0],[],[],[2,3],[1,4],[],[],[7],[6,8],[],[10],[],[12],[11,13],[9,14],[5,15],[],[16,17],[],[19],[20]] [po w3.hz 7,wv v.h,wv v.e,undef,wv (mix v.e [6,11,25]),wv (v.h+(mix v.e [6,11,25])),wv v.e,po w3.hz 5,wv v.f,wv (v.e &&& v.f),wv v.e,wv (~~~v.e),po w3.hz 6,wv v.g,wv ((~~~v.e) &&& v.g),wv ((v.e &&& v.f) ^^^ ((~~~v.e) &&& v.g)),wv ((v.h+(mix v.e [6,11,25]))+((v.e &&& v.f) ^^^ ((~~~v.e) &&& v.g))),wv (kOf.getD k 0#32),wv (((v.h+(mix v.e [6,11,25]))+((v.e &&& v.f) ^^^ ((~~~v.e) &&& v.g)))+(kOf.getD k 0#32)),jv (k:Int),.pointer (some ⟨w1.hz,k,none⟩),wv ((sch bs 64).getD k 0#32)] Y U ?_ ?_ ?_
  ·intro i hi hiq
   match i,hi,hiq with
   | 0,_,_=>exact λw U=>OpV.g (aS (v:=po w3.hz 7) O O kr)
   | 1,_,_=>exact λw U=>OpV.g (ld U 0 O O (isAgg206 _) O)
   | 2,_,_=>exact λw U=>OpV.g (ax O)
   | 3,_,h=>exact absurd sm h
   | 4,_,_=>
    rintro _ _ ⟨b2,rfl, -,rfl⟩;intro w U;exact bu call201 O (jr v.e (.slice (some ⟨b2,0,none⟩) 3 3) [6,11,25] _ (U.ow 0 O) de)
   | 5,_,_=>exact λw U=>OpV.g (db O O)
   | 6,_,_=>exact λw U=>OpV.g (ax O)
   | 7,_,_=>exact λw U=>OpV.g (aS (v:=po w3.hz 5) O O kr)
   | 8,_,_=>exact λw U=>OpV.g (ld U 0 O O (isAgg206 _) O)
   | 9,_,_=>exact λw U=>OpV.g (fP O O)
   | 10,_,_=>exact λw U=>OpV.g (ax O)
   | 11,_,_=>exact λw U=>OpV.g (xe O)
   | 12,_,_=>exact λw U=>OpV.g (aS (v:=po w3.hz 6) O O kr)
   | 13,_,_=>exact λw U=>OpV.g (ld U 0 O O (isAgg206 _) O)
   | 14,_,_=>exact λw U=>OpV.g (fP O O)
   | 15,_,_=>exact λw U=>OpV.g (dK O O)
   | 16,_,_=>exact λw U=>OpV.g (db O O)
   | 17,_,_=>exact λw U=>OpV.g (ax O)
   | 18,_,_=>exact λw U=>OpV.g (db O O)
   | 19,_,_=>exact λw U=>OpV.g (ax O)
   | 20,_,_=>exact λw U=>OpV.g ((cb (n:=64) (i:=(k:Int)) O O (runUnderlying258 _) (sizeOf206 _) om om).as (v':=.pointer (some ⟨w1.hz,k,none⟩)) (by rw[show 0+((k:Int):Int).toNat=k from by omega]))
   | 21,_,_=>exact λw U=>OpV.g (bX (U.g 1 O) O (isAgg206 _) (eW (d:=0#32) (by have:=(aT bs 64); omega)))
   | i+22,h,_=>exact absurd h om
  ·intro i hi;simp only[A0,A4,Bm] at hi;subst hi
   ·intro w U;exact bL (E:=3) (sz:=1) O [[jv 6],[jv 11],[jv 25]] (λ_=>by kernel_rfl) sm O de
  clear Y U;rintro _ _ ⟨b2,rfl, -,rfl⟩ a w10 Y U;replace Y:=Y.p8 45 48 0 4 5 18 19 8 O;replace U:=U.n4 O;refine ab<|aI (k:=22) 24 [23] ?_;refine nv Y<|AK (db O O)<|AM O<|λa Y=>ab<|aO<|G10 ?_;replace Y:=Y.p7 0 4 5 18 19 8 10 O;replace U:=U.k3 14 O;refine ah λG11=>aL (aM λw11 hxz=>?_);replace U:=U.grow hxz;refine aP (k:=0) 18 [2,17] Y ?_;replace Y:=Y.p7 0 4 5 18 19 8 10 O;refine bE [1] (λi=>match i with|1=>pm (λb:Nat=>.slice (some ⟨b,0,none⟩) 3 3) (λb=>[own (.slice (some ⟨b,0,none⟩) 3 3) 3 1 [[jv 2],[jv 13],[jv 22]]]) (λ_=>True)|_=>λ_ _=>False) 18 [[],[],[0,1],[],[],[4],[3,5],[],[],[8],[7,9],[6,10],[],[12],[],[14],[13,15],[11,16]] [wv v.a,undef,wv (mix v.a [2,13,22]),wv v.a,po w3.hz 1,wv v.b,wv (v.a &&& v.b),wv v.a,po w3.hz 2,wv v.c,wv (v.a &&& v.c),wv ((v.a &&& v.b) ^^^ (v.a &&& v.c)),po w3.hz 1,wv v.b,po w3.hz 2,wv v.c,wv (v.b &&& v.c),wv (((v.a &&& v.b) ^^^ (v.a &&& v.c)) ^^^ (v.b &&& v.c))] Y U ?_ ?_ ?_
  ·intro i hi hiq
   match i,hi,hiq with
   | 0,_,_=>exact λw U=>OpV.g (ax O)
   | 1,_,h=>exact absurd sm h
   | 2,_,_=>
    rintro _ _ ⟨b3,rfl, -,rfl⟩;intro w U;exact bu call201 O (jr v.a (.slice (some ⟨b3,0,none⟩) 3 3) [2,13,22] _ (U.ow 0 O) de)
   | 3,_,_=>exact λw U=>OpV.g (ax O)
   | 4,_,_=>exact λw U=>OpV.g (aS (v:=po w3.hz 1) O O kr)
   | 5,_,_=>exact λw U=>OpV.g (ld U 0 O O (isAgg206 _) O)
   | 6,_,_=>exact λw U=>OpV.g (fP O O)
   | 7,_,_=>exact λw U=>OpV.g (ax O)
   | 8,_,_=>exact λw U=>OpV.g (aS (v:=po w3.hz 2) O O kr)
   | 9,_,_=>exact λw U=>OpV.g (ld U 0 O O (isAgg206 _) O)
   | 10,_,_=>exact λw U=>OpV.g (fP O O)
   | 11,_,_=>exact λw U=>OpV.g (dK O O)
   | 12,_,_=>exact λw U=>OpV.g (aS (v:=po w3.hz 1) O O kr)
   | 13,_,_=>exact λw U=>OpV.g (ld U 0 O O (isAgg206 _) O)
   | 14,_,_=>exact λw U=>OpV.g (aS (v:=po w3.hz 2) O O kr)
   | 15,_,_=>exact λw U=>OpV.g (ld U 0 O O (isAgg206 _) O)
   | 16,_,_=>exact λw U=>OpV.g (fP O O)
   | 17,_,_=>exact λw U=>OpV.g (dK O O)
   | i+18,h,_=>exact absurd h om
  ·intro i hi;simp only[A0,A4,Bm] at hi;subst hi
   ·intro w U;exact bL (E:=3) (sz:=1) O [[jv 2],[jv 13],[jv 22]] (λ_=>by kernel_rfl) sm O de
  clear Y U;rintro _ _ ⟨b3,rfl, -,rfl⟩ a w12 Y U;replace Y:=Y.p8 52 67 0 4 5 18 19 10 O;replace U:=U.n4 O;refine ab<|aI (k:=18) 20 [19] ?_;refine nv Y<|AK (db O O)<|AM O<|λa Y=>ab<|aO<|G11 ?_;replace Y:=Y.p7 0 4 5 18 19 10 11 O;replace U:=U.k3 14 O;refine ah λG12=>aL (aM λw13 hxz=>?_);replace U:=U.grow hxz;refine aP (k:=0) 2 [0,1] Y ?_;refine bB 2 (Y.p7 0 4 5 18 19 10 11 O) U<|pl_v (im O O O O (eS (n:=8) (l:=1) (h:=8) underlying246 kr (.inr O) (.inl ⟨O,O⟩) de de de))<|pl_v (im O O O O (eS (n:=8) (l:=0) (h:=7) underlying246 kr (.inl ⟨O,O⟩) (.inr O) de de de)) λa w14 Y U=>ab<|aI (k:=2) 3 [2] ?_;refine sw (us:=[wv v.a,wv v.b,wv v.c,wv v.d,wv v.e,wv v.f,wv v.g]) (ds:=[wv v.a,wv v.a,wv v.b,wv v.c,wv v.d,wv v.e,wv v.f,wv v.g]) 0 Y U de O O O underlying207 kr O O O (lb O) O O λa w15 Y U=>ab<|aO<|G12<|al<|nv Y<|AL O<|AL O<|AK (db O O)<|AK (aS (v:=po w3.hz 4) O O kr)<|AK (ld U 0 O O (isAgg206 _) O)<|AL O<|AK (db O O)<|AK (aS (v:=pq w3.hz) O O kr)<|λa Y=>aA 0 Y U [wv (((((v.h+(mix v.e [6,11,25]))+((v.e &&& v.f) ^^^ ((~~~v.e) &&& v.g)))+(kOf.getD k 0#32))+((sch bs 64).getD k 0#32))+((mix v.a [2,13,22])+(((v.a &&& v.b) ^^^ (v.a &&& v.c)) ^^^ (v.b &&& v.c)))),wv v.a,wv v.b,wv v.c,wv v.d,wv v.e,wv v.f,wv v.g] O (sizeOf206 _) λa w16 Y U=>wlv Y (aS (v:=po w3.hz 4) O O kr) λa Y=>aA 0 Y U [wv (((((v.h+(mix v.e [6,11,25]))+((v.e &&& v.f) ^^^ ((~~~v.e) &&& v.g)))+(kOf.getD k 0#32))+((sch bs 64).getD k 0#32))+((mix v.a [2,13,22])+(((v.a &&& v.b) ^^^ (v.a &&& v.c)) ^^^ (v.b &&& v.c)))),wv v.a,wv v.b,wv v.c,wv (v.d+((((v.h+(mix v.e [6,11,25]))+((v.e &&& v.f) ^^^ ((~~~v.e) &&& v.g)))+(kOf.getD k 0#32))+((sch bs 64).getD k 0#32))),wv v.e,wv v.f,wv v.g] O (sizeOf206 _) λa w17 Y U=>ab<|G7<|al<|nv (Y.p5 0 4 5 18 19 O)<|AK (aK O O ⟨om,om⟩)<|AL O<|λa Y=>ab ?_;refine⟨_,?_,k+1,(rnd v (kOf.getD k 0#32) ((sch bs 64).getD k 0#32)),O,om,(by rw[rounds,hrv]),Y.pick [0,4,5,18,19],U.select [0,1,2] de⟩;omega
 obtain rfl:k=64:=by omega
 refine aN<|G3<|aa λG13=>wlm Y O λa Y=>G13<|aw<|aV (λm a w=>∃(j:Nat),m=8- j∧(j≤8)∧Fr 97 [(0,pq b),(5,pq w3.hz),(82,jv (j:Int))] [] a∧St (·=b) w0 [blk w3.hz (v.l.map wv) 246,blk b ((addTo hv v j).map wv) 246] w) _ ⟨0,O,A8 _,Y.pick [0,5,82],U.select [0,2] de⟩ ?_;rintro _ a w18 ⟨j,rfl,hj,Y,U⟩;refine aa λG14=>wlv Y (v_lt O O) λa Y=>G14<|ah λG15=>ay Y O (λhc4=>?_) (λhc4=>?_)
 ·refine ap<|G15<|ah λG16=>aw<|aa λG17=>nv Y<|AL O<|AM O<|λa Y=>G17<|aL (aM λw19 hxz=>?_);replace U:=U.grow hxz;refine aP (k:=0) 10 [8,9] Y ?_;refine bB 10 (Y.p5 0 5 82 84 12 O) U<|pl_m O<|pl_m O<|pl_v (aX O)<|pl_v ((cb (n:=8) (i:=(j:Int)) O O (runUnderlying246 _) (sizeOf206 _) om om).as (v':=.pointer (some ⟨b,j,none⟩)) DD)<|pl_w (λU=>bX (U.g 1 O) O (isAgg206 _) (eW (d:=0#32) (by have:=(nM hv v j); omega)))<|pl_m O<|pl_v ((cb (n:=8) (i:=(j:Int)) O O (runUnderlying246 _) (sizeOf206 _) om om).as (v':=.pointer (some ⟨w3.hz,j,none⟩)) DD)<|pl_w (λU=>bX (U.g 0 O) O (isAgg206 _) (eW (d:=0#32) (by have:=(W8.l_len v); omega)))<|pl_v (db O O)<|pl_v (aX O) λa w20 Y U=>?_;replace Y:=Y.p6 0 5 82 86 93 94 O;refine ab<|aI (k:=10) 12 [11] ?_;refine wlv Y ((cb (n:=8) (i:=(j:Int)) O O (runUnderlying246 _) (sizeOf206 _) om om).as (v':=.pointer (some ⟨b,j,none⟩)) DD) λa Y=>fB (f:=wv) (z:=((addTo hv v j).getD j 0#32)+(v.l.getD j 0#32)) 1 Y U O O O (sizeOf206 _) O O (by have:=(nM hv v j); omega) O λa w21 Y U=>ab<|aO<|G16<|al<|nv Y<|AK (aK O O ⟨om,om⟩)<|AL O<|λa Y=>ab ?_;rw[show (addTo hv v j).set j (((addTo hv v j).getD j 0#32)+(v.l.getD j 0#32))=addTo hv v (j+1) from by rw[addTo,uU om]] at U;refine⟨_,?_,j+1,O,om,Y.pick [0,5,82],U.select [0,1] de⟩;omega
 refine aN<|cY Y results192 ag ?_;obtain rfl:j=8:=by omega
 exact⟨O,U.ext,by rw[block,hrv,←uH]; exact U.g 1 O⟩
def byteAt (v:W8) (n:Nat):UInt8:=UInt8.ofNat (v.l.getD (n / 4) 0#32 >>> (24- 8*(n%4))).toNat
def oArr (v:W8):Nat→List UInt8
 | 0=>List.replicate 32 0
 | n+1=>(oArr v n).set n (byteAt v n)
theorem rq (v:W8) (n:Nat):(oArr v n).length=32:=by
 induction n with
 | zero=>exact B3
 | succ n ih=>rw[oArr,Cj,ih]
theorem wQ {v:W8} {k j:Nat} (hj:j<4):(oArr v (4*k+j)).set (4*k+j) (UInt8.ofNat (v.l.getD k 0#32 >>> (24- 8*j)).toNat)=oArr v (4*k+(j+1)):=by
 show _=(oArr v (4*k+j)).set (4*k+j) (byteAt v (4*k+j));rw[byteAt,show (4*k+j) / 4=k from by omega,show (4*k+j)%4=j from by omega]
theorem yk (v:W8):oArr v 32=v.out:=by kernel_rfl
theorem uy (hw:W8) (w0:World):
  Ff 193 #[.agg #[wv hw.a,wv hw.b,wv hw.c,wv hw.d,wv hw.e,wv hw.f,wv hw.g,wv hw.h]] w0 (sv hw.out):=by
 refine Cy func193 O ntmps193 (lb O) λa Y U=>aa λG1=>aR Y U O [wv hw.a,wv hw.b,wv hw.c,wv hw.d,wv hw.e,wv hw.f,wv hw.g,wv hw.h] O λa w1 Y U=>wla Y O λa Y=>G1<|aa λG2=>aE Y U (zeroValue261 _) ((List.replicate 32 (0:UInt8)).map yv) kr λa w2 Y U=>G2<|ah λG3=>aa λG4=>nv Y<|AK (ar (U.g 1 O) O (isAgg246 _) (sizeOf246 _))<|AL O<|λa Y=>G4<|aw<|aV (λm a w=>∃(k:Nat),m=8- k∧(k≤8)∧Fr 30 [(2,.string (⟨#[]⟩)),(3,pq w1.hz),(7,.agg #[wv hw.a,wv hw.b,wv hw.c,wv hw.d,wv hw.e,wv hw.f,wv hw.g,wv hw.h]),(8,jv (k:Int))] [] a∧St No w0 [blk w1.hz ((oArr hw (4*k)).map yv) 261] w) _ ⟨0,O,A8 _,Y.pick [2,3,7,8],U.select [0] de⟩ ?_;rintro _ a w3 ⟨k,rfl,hk,Y,U⟩;refine aa λG5=>wlv Y (v_lt O O) λa Y=>G5<|ah λG6=>ay Y O (λhc1=>?_) (λhc1=>?_)
 ·refine ap<|G6<|ah λG7=>aw<|aa λG8=>nv Y<|AL O<|AK (kT (cs:=hw.l.map wv) (i:=(k:Int)) O O (runUnderlying246 _) (sizeOf206 _) (isAgg206 _) om om (by rw[show ((k:Int):Int).toNat=k from by omega]; exact eW (d:=0#32) (by have:=(W8.l_len hw); omega)))<|AM O<|AM O<|λa Y=>G8<|aa λG9=>wlm Y O λa Y=>G9<|aw<|aV (λm a w=>∃(j:Nat),m=4- j∧(j≤4)∧Fr 30 [(2,.string (⟨#[]⟩)),(3,pq w1.hz),(7,.agg #[wv hw.a,wv hw.b,wv hw.c,wv hw.d,wv hw.e,wv hw.f,wv hw.g,wv hw.h]),(8,jv (k:Int)),(4,jv (k:Int)),(5,wv (hw.l.getD k 0#32)),(12,jv (j:Int))] [] a∧St No w0 [blk w1.hz ((oArr hw (4*k+j)).map yv) 261] w) _ ⟨0,O,A8 _,Y.pick [2,3,7,8,4,5,12],U.select [0] de⟩ ?_;rintro _ a w4 ⟨j,rfl,hj,Y,U⟩;refine aa λG10=>wlv Y (v_lt O O) λa Y=>G10<|ah λG11=>ay Y O (λhc2=>?_) (λhc2=>?_)
  ·refine ap<|G11<|ah λG12=>aw<|aa λG13=>nv Y<|AL O<|AM O<|λa Y=>G13<|al<|nv Y<|AL O<|AK (ey O O ⟨om,om⟩)<|AL O<|AK (aK O O ⟨om,om⟩)<|AL O<|AL O<|AK (ey O O ⟨om,om⟩)<|AK ((bF O O ⟨om,om⟩).asi (m':=((24- 8*j:Nat):Int)) om)<|AK (fL (n:=(24- 8*j)) O O)<|AK (fU O kr underlying5)<|AK ((cb (n:=32) (i:=(4*(k:Int))+(j:Int)) O O (runUnderlying261 _) (sizeOf5 _) om om).as (v':=.pointer (some ⟨w1.hz,((4*k)+j),none⟩)) (by rw[show 0+((4*(k:Int))+(j:Int):Int).toNat=((4*k)+j) from by omega]))<|λa Y=>fB (f:=yv) (z:=UInt8.ofNat ((hw.l.getD k 0#32) >>> (24- 8*j)).toNat) 0 Y U O O O (sizeOf5 _) O O (by have:=(rq hw (4*k+j)); omega) O λa w5 Y U=>ab<|G12<|al<|nv (Y.p7 2 3 7 8 4 5 12 O)<|AK (aK O O ⟨om,om⟩)<|AL O<|λa Y=>ab ?_;rw[show (oArr hw (4*k+j)).set ((4*k)+j) (UInt8.ofNat ((hw.l.getD k 0#32) >>> (24- 8*j)).toNat)=oArr hw (4*k+(j+1)) from wQ om] at U;refine⟨_,?_,j+1,O,om,Y.pick [2,3,7,8,4,5,12],U.select [0] de⟩;omega
  refine aN<|G7<|al<|nv Y<|AK (aK O O ⟨om,om⟩)<|AL O<|λa Y=>ab ?_;obtain rfl:j=4:=by omega
  rw[show 4*k+4=4*(k+1) from by omega] at U;refine⟨_,?_,k+1,O,om,Y.pick [2,3,7,8],U.select [0] de⟩;omega
 obtain rfl:k=8:=by omega
 refine aN<|G3<|aa λG14=>nv Y<|AK (im O O O O (eS (n:=32) (l:=0) (h:=32) underlying261 kr (.inl ⟨O,O⟩) (.inl ⟨O,O⟩) de de de))<|AK (uD (U.g 0 O) O (rq hw (4*8)) underlying60 underlying5 underlying9)<|AM O<|λa Y=>G14 ?_;replace Y:=Y.p1 2 O;replace U:=U.k0 0 O;refine ao<|am Y results193 (ae O ag) ?_;exact⟨by simp only[retv]; rw[←yk]; try rfl,U.ext⟩
def encC (v:Value) (k:Nat):List Value:=[cut v 1 (64*k) (64*k+64) (64*k+64)]
def NxC (q:Nat) (pre:List Nat) (x:Nat):Prop:=x=pre.length∧x<q
theorem vg {M:Nat→Prop} {w0:World} (vB:Value) (n q lp b2 b3:Nat) (J Jx:List Nat→Ent→Prop) (hY:Rounds Tryz.prog M w0 lp (encC vB) (NxC q) J Jx) (e0:Ent) (ws:World) (hsh:Shp vB n) (hn:n=64*q) (hnb:n≤1000000000) (hJ:J [] e0) (U:St M w0 [e0,blk b2 [vB] 60,blk b3 [jv 64] 3] ws):
  Ret Tryz.prog 199 #[.func (.yield lp) #[] #[],pq b2,pq b3] ws λ_ w=>∃e1 Hi1,St M w0 (e1::Hi1) w∧((∃xs,(xs=List.range q∧Hi1=[blk b2 [vB] 60,blk b3 [jv 64] 3])∧J xs e1)∨(∃pre,Hi1=[blk b2 [vB] 60,blk b3 [jv 64] 3]∧Jx pre e1)):=by
 refine aD func199 O ntmps199 (lb O) λa Y=>?_;replace Y:=Y.p3 0 1 2 O;skip;refine aa λG1=>wla Y O λa Y=>G1<|aw<|aV (λm a w=>∃(k:Nat) (e:Ent),m=q- k∧(k≤q)∧(J (List.range k) e)∧Fr 31 [(0,.func (.yield lp) #[] #[]),(1,pq b2),(2,pq b3),(4,jv ((64*k:Nat):Int))] [] a∧St M w0 [e,blk b2 [vB] 60,blk b3 [jv 64] 3] w) _ ⟨0,e0,O,A8 _,hJ,Y.pick [0,1,2,4],U⟩ ?_;rintro _ a w1 ⟨k,e,rfl,hk,hJ,Y,U⟩;refine ah λG2=>aa λG3=>nv Y<|AL O<|AK (ld U 1 O O (isAgg60 _) O)<|AK (tK hsh O O (runUnderlying60 _))<|AK (v_lt O O)<|λa Y=>G3<|ay Y O (λhc1=>?_) (λhc1=>?_)
 ·have hkq:k<q:=by omega
  refine ap<|G2<|ah λG4=>aw<|ah λG5=>aL (aM λw2 hxz=>?_);replace U:=U.grow hxz;refine aP (k:=0) 5 [0,4] Y ?_;refine bB 5 (Y.p7 0 1 2 4 6 7 8 O) U<|pl_w (λU=>ld U 2 O O (isAgg3 _) O)<|pl_w (λU=>ld U 1 O O (isAgg60 _) O)<|pl_m O<|pl_v (kd (sz:=1) (n:=n) (l:=64*k) (h:=n) (m:=slCap vB) hsh O O O O underlying60 kr (.inr O) (.inl ⟨O,O,O⟩) (.inl ⟨O,O⟩) om hsh.cap (Bs _))<|pl_v (tK (hsh.cut hsh.cap) O O (runUnderlying60 _)) λa w3 Y U=>?_;replace Y:=Y.p6 0 1 2 4 13 17 O;refine ab<|aI (k:=5) 7 [6] ?_;refine nv Y<|AK (so O O)<|AM O<|λa Y=>ab<|aO<|G5 ?_;rw[show min (64:Int) ((n- 64*k:Nat):Int)=64 from by omega] at Y;refine aa λG6=>nv Y<|AL O<|AK (ld U 1 O O (isAgg60 _) O)<|AL O<|AL O<|AL O<|AK (aK O O ⟨om,om⟩)<|AL O<|AL O<|AK (aK O O ⟨om,om⟩)<|AK (kd (sz:=1) (n:=n) (l:=64*k) (h:=64*k+64) (m:=64*k+64) hsh O O O O underlying60 kr (.inr O) (.inr O) (.inr O) om om (by have:=hsh.cap; omega))<|λa Y=>wl_r (f9 O O (hY.yield (pre:=List.range k) (x:=k) ⟨by simp,hkq⟩ hJ (U.only (i:=0) O))) O O Y λa v w4 hR Y=>?_;obtain⟨y2,e3,rfl,hx,hok,hft,hJt,hJf⟩:=hR;replace U:=U.exchange (k:=0) rfl hx hok hft;replace U:=U.n3 O;clear hx hok hft;refine wlv Y (bd O) λa Y=>G6 ?_;replace Y:=Y.p5 0 1 2 4 30 O;refine bn Y O (λhc4=>?_) (λhc4=>?_)
  ·try simp only[qz] at hc4
   have hJ:=hJf hc4;refine ao<|am Y results199 ag ?_;exact⟨_,_,U,.inr ⟨_,O,hJ⟩⟩
  try simp only[qz] at hc4
  have hJ:=hJt hc4;rw[←Cv] at hJ;refine ap<|G4<|al<|nv Y<|AL O<|AK (ld U 2 O O (isAgg3 _) O)<|AK (aK O O ⟨om,om⟩)<|AM O<|λa Y=>ab ?_;rw[show ((64*k:Nat):Int)+64=((64*(k+1):Nat):Int) from by omega] at Y;refine⟨_,?_,k+1,e3,O,om,hJ,Y.pick [0,1,2,4],U⟩;omega
 obtain rfl:k=q:=by omega
 refine aN<|cY Y results199 ag ?_;exact⟨_,_,U,.inl ⟨_,⟨O,O⟩,hJ⟩⟩
theorem sD {M:Nat→Prop} {w0:World} (vB:Value) (n q b2 b3:Nat) (hsh:Shp vB n) (hn:n=64*q) (hnb:n≤1000000000):
  Iter Tryz.prog 199 [pq b2,pq b3] (encC vB) (NxC q) (λxs Hi=>xs=List.range q∧Hi=[blk b2 [vB] 60,blk b3 [jv 64] 3]) (λpre Hi=>Hi=[blk b2 [vB] 60,blk b3 [jv 64] 3]) M w0 [blk b2 [vB] 60,blk b3 [jv 64] 3]:=
 λlp J Jx w e hY hJ U=>vg vB n q lp b2 b3 J Jx hY e w hsh hn hnb hJ U
theorem wK (vB:Value) (els:List (List Value)) (w0:World) (hv:SlAt w0 vB 1 els):
  Ret Tryz.prog 191 #[vB,jv 64] w0 (MemR w0 (λz:Nat × Nat=>.func (.func 199) #[] #[pq z.1,pq z.2]) (λz=>[blk z.2 [jv 64] 3,blk z.1 [vB] 60]) (λ_=>True)):=by
 refine Cx func191 O ntmps191 (lb O) λa Y U=>aa λG1=>aR Y U O [vB] (by rw[(U.arg hv).cells]) λa w1 Y U=>aR Y U O [jv 64] O λa w2 Y U=>wla Y O λa Y=>G1<|ah λG2=>aa λG3=>nv Y<|AK (ld U 0 O O (isAgg3 _) O)<|AK ((v_lt O O).asb (b':=false) O)<|λa Y=>G3<|aJ Y O ?_;refine ap<|G2<|aa λG4=>nv Y<|AK (ct O O)<|AM O<|λa Y=>G4 ?_;replace Y:=Y.p1 4 O;refine ao<|am Y results191 (ae O ag) ?_;exact⟨(w0.hz,w1.hz),O,trivial,U.ext,St.out (H:=[]) U⟩
theorem aZ {P:Program} {w:World} {L:List (Nat × Value)} {dst:Option Tmp} {ty sT:TypeId} {pos:String} {af:Array Edge} {gd:Option (Nat × Bool)} {x:Operand} {ats:Array TypeId} {xs:List UInt8} (hx:ev L x=some (sv xs)) (hat:ats[0]?=some sT) (hu:(underlying sT).run P w=.ok .string w):
  OpV P ⟨dst,.call {callee:=.builtin .len,args:=#[x],argTypes:=ats},ty,pos,af,gd⟩ L w (jv (xs.length:Int)):=by
 refine fc (xs:=[x]) (vs:=[sv xs]) (by simp[evs,hx]) ?_;have hsz:(ByteArray.mk xs.toArray).size=xs.length:=by simp[ByteArray.size]
 unfold sv;simp[builtin,Builtin.len_,hat,hu,goInt,hsz]
theorem iG {n r:Nat} (h:r<8):(ck n).take (r+1)=(ck n).take r++[UInt8.ofNat (8*n / 2 ^ (8*(7- r)))]:=by
 rw[List.take_succ_eq_append_getElem (by simp[ck]; omega)];simp only[ck,Ch,List.getElem_range]
theorem yl {w:World} {v:Value} {bs:List UInt8} {k:Nat} (h:SlAt w v 1 (bs.map λb=>[yv b])) (hk:64*k+64≤bs.length):SlAt w (cut v 1 (64*k) (64*k+64) (64*k+64)) 1 (((bs.drop (64*k)).take 64).map λb=>[yv b]):=by
 have hc:=h.shp.cap;rw[AP] at hc;have:=h.cut (l:=64*k) (h:=64*k+64) (m:=64*k+64) om Er (Bs _) om;rw[show 64*k+64- 64*k=64 from by omega] at this;rw[List.map_take,List.map_drop]; exact this
theorem zC {w:World} {v:Value} {E:TypeId} {sz:Nat} {els:List (List Value)} {l h m j:Nat} (ho:(own v E sz els).ok w) (hj:slBlk (cut v sz l h m)=some j):(own v E sz els).foot j:=by
 obtain⟨_,_,h3⟩:=ho;rcases h3.2 with⟨rfl,_⟩|⟨g,cap,cur,fz,rfl,_⟩
 ·exfalso; revert hj; unfold cut; simp only; split<;>simp[slBlk]
 ·have:g=j:=by
   revert hj; unfold cut; simp only;split<;>simp[slBlk,Addr.add]<;>split<;>simp
  subst this; rfl
theorem xC {M:Nat→Prop} {w0 w:World} {H:List Ent} {i j:Nat} {e e':Ent} (U:St M w0 H w) (hij:i<j) (hi:H[i]?=some e) (hj:H[j]?=some e'):Ent.disj e e':=by
 have:=U.dis;rw[List.pairwise_iff_getElem] at this;obtain⟨h1,rfl⟩:=Bo.1 hi;obtain⟨h2,rfl⟩:=Bo.1 hj;exact this i j h1 h2 hij
theorem At {M:Nat→Prop} {w0 w:World} {b k:Nat} {hv:W8} {v:Value} {bs:List UInt8} (U:St M w0 [blk 0 (kOf.map wv) 258,blk b (hv.l.map wv) 246,own v 5 1 (bs.map λb=>[yv b])] w) (hk:64*k+64≤bs.length):
  Ret Tryz.prog 192 #[pq b,cut v 1 (64*k) (64*k+64) (64*k+64)] w λv w'=>v=.tuple #[]∧Ext (·=b) w w'∧(blk b ((block hv ((bs.drop (64*k)).take 64)).l.map wv) 246).ok w':=
 Al b hv _ ((bs.drop (64*k)).take 64) w (U.g 1 rfl) (U.g 0 rfl) (λh=>xC U (i:=0) (j:=1) de rfl rfl 0 rfl h)
  (yl (U.ow 2 rfl) hk) Df (λj hj h=>xC U (i:=1) (j:=2) de rfl rfl j h (zC (U.g 2 rfl) hj))
def sum1 (s:List UInt8) (z:Nat):List UInt8:=s++[128]++List.replicate z 0
def sum2 (s:List UInt8) (r:Nat):List UInt8:=s++[128]++List.replicate (zeros s.length) 0++(ck s.length).take r
theorem qa (s:List UInt8) (z:Nat):(sum1 s z).length=s.length+1+z:=by simp[sum1]; omega
theorem jT (s:List UInt8):(padded s).length≤s.length+72:=by
 simp only[padded,ck,zeros,AW,B3,AP,List.length_range,A3,A5];omega
theorem yb (s:List UInt8) (w0:World) (hk0:(blk 0 (kOf.map wv) 258).ok w0) (hs:s.length≤100000000):
  Ff 168 #[sv s] w0 (sv (sha s)):=by
 refine aD func168 O ntmps168 (lb O) λa Y=>?_;replace U:St (·=0) w0 [blk 0 (kOf.map wv) 258] w0:=St.one hk0;refine aa λG1=>wla (Y.p1 0 O) O λa Y=>G1<|aa λG2=>wlv Y (aW (v:=.agg #[wv (1779033703#32),wv (3144134277#32),wv (1013904242#32),wv (2773480762#32),wv (1359893119#32),wv (2600822924#32),wv (528734635#32),wv (1541459225#32)]) O kr) λa Y=>aE Y U (zeroValue246 _) [wv (0#32),wv (0#32),wv (0#32),wv (0#32),wv (0#32),wv (0#32),wv (0#32),wv (0#32)] O λa w1 Y U=>aA 0 Y U [wv (1779033703#32),wv (3144134277#32),wv (1013904242#32),wv (2773480762#32),wv (1359893119#32),wv (2600822924#32),wv (528734635#32),wv (1541459225#32)] O (sizeOf246 _) λa w2 Y U=>G2<|aa λG3=>wlm Y O λa Y=>m9 O underlying9 underlying60 underlying5 (by simp only[big]; omega) de Y U λa w3 s1 Y U=>aG (E:=5) (sz:=1) O [[yv (128:UInt8)]] kr sm O de de Y U λa w4 Y U=>bc (i:=1) (sT:=60) (inf:=Tryz.t5) (z:=yv (0:UInt8)) (b:=0) (off:=0) (m:=0) (c:=0) O O O (U.ow 0 O) sm underlying60 O O O O de CK CJ CJ de Y U λa w5 s2 Y U _=>wla Y O λa Y=>G3<|ah λG4=>aw ?_;rw[show (s.map λb=>[yv b])++([[yv (128:UInt8)]])=((sum1 s 0).map λb=>[yv b]) from by simp[sum1]] at U;refine aV (λm a w=>∃(z:Nat) (v:Value),m=64- z∧(z≤zeros s.length)∧Fr 40 [(0,sv s),(2,.string (⟨#[]⟩)),(3,pq w0.hz),(4,v)] [] a∧St (·=0) w0 [own v 5 1 ((sum1 s z).map λb=>[yv b]),blk w0.hz [wv (1779033703#32),wv (3144134277#32),wv (1013904242#32),wv (2773480762#32),wv (1359893119#32),wv (2600822924#32),wv (528734635#32),wv (1541459225#32)] 246,blk 0 (kOf.map wv) 258] w) _ ⟨0,s2,O,A8 _,Y.pick [0,2,3,4],U.select [1,2,3] de⟩ ?_;rintro _ a w6 ⟨z,v,rfl,hz,Y,U⟩;refine ah λG5=>aa λG6=>nv Y<|AL O<|AK ((aH (sT:=60) (U.ow 0 O) O O (runUnderlying60 _)).asi (m':=((s.length+1+z:Nat):Int)) (by rw[AP,qa]))<|AK (fH O O om om)<|AK (v_ne O O)<|λa Y=>G6<|bV Y O (λhc3=>?_) (λhc3=>?_)
 ·have hz2:z+1≤zeros s.length:=by unfold zeros at hz⊢; omega
  have hz3:zeros s.length<64:=by unfold zeros; omega
  refine ap<|G5<|aw<|al<|wlm Y O λa Y=>aG (E:=5) (sz:=1) O [[yv (0:UInt8)]] kr sm O de de Y U λa w7 Y U=>bc (i:=1) (sT:=60) (inf:=Tryz.t5) (z:=yv (0:UInt8)) (b:=0) (off:=0) (m:=0) (c:=0) O O O (U.ow 0 O) sm underlying60 O O O O de CK CJ CJ de Y U λa w8 s4 Y U _=>wla Y O λa Y=>ab ?_;rw[show ((sum1 s z).map λb=>[yv b])++([[yv (0:UInt8)]])=((sum1 s (z+1)).map λb=>[yv b]) from by simp[sum1,List.replicate_succ']] at U;refine⟨_,?_,z+1,s4,O,hz2,Y.pick [0,2,3,4],U.select [1,2,3] de⟩;omega
 obtain rfl:z=zeros s.length:=by unfold zeros at hz⊢; omega
 refine aN<|G4<|ah λG7=>aa λG8=>wla Y O λa Y=>G8<|aw ?_;rw[show ((sum1 s (zeros s.length)).map λb=>[yv b])=((sum2 s 0).map λb=>[yv b]) from by simp[sum1,sum2]] at U;rw[show (7:Int)=7- ((0:Nat):Int) from by omega] at Y;refine aV (λm a w=>∃(r:Nat) (v:Value),m=8- r∧(r≤8)∧Fr 40 [(0,sv s),(2,.string (⟨#[]⟩)),(3,pq w0.hz),(4,v),(5,jv (7- (r:Int)))] [] a∧St (·=0) w0 [own v 5 1 ((sum2 s r).map λb=>[yv b]),blk w0.hz [wv (1779033703#32),wv (3144134277#32),wv (1013904242#32),wv (2773480762#32),wv (1359893119#32),wv (2600822924#32),wv (528734635#32),wv (1541459225#32)] 246,blk 0 (kOf.map wv) 258] w) _ ⟨0,v,O,A8 _,Y.pick [0,2,3,4,5],U.select [0,1,2] de⟩ ?_;rintro _ a w9 ⟨r,v,rfl,hr,Y,U⟩;refine ah λG9=>aa λG10=>nv Y<|AL O<|AK (v_ge O O)<|λa Y=>G10<|ay Y O (λhc5=>?_) (λhc5=>?_)
 ·refine ap<|G9<|ah λG11=>aw<|al<|nv Y<|AL O<|AL O<|AK (aZ O O (runUnderlying9 _))<|AK ((ey O O ⟨om,om⟩).asi (m':=((8*s.length:Nat):Int)) om)<|AL O<|AK ((ey O O ⟨om,om⟩).asi (m':=((8*(7- r):Nat):Int)) om)<|AK (rH (m:=(8*s.length)) (n:=(8*(7- r))) O O om)<|AK (nW (n:=8*s.length / 2 ^ (8*(7- r))) O kr underlying5)<|λa Y=>aG (E:=5) (sz:=1) O [[yv (UInt8.ofNat (8*s.length / 2 ^ (8*(7- r))))]] kr sm O de de Y U λa w10 Y U=>bc (i:=1) (sT:=60) (inf:=Tryz.t5) (z:=yv (0:UInt8)) (b:=0) (off:=0) (m:=0) (c:=0) O O O (U.ow 0 O) sm underlying60 O O O O de CK CJ CJ de Y U λa w11 s6 Y U _=>wla Y O λa Y=>ab<|G11 ?_;replace U:=U.k3 14 O;refine al<|nv (Y.p5 0 2 3 5 4 O)<|AL O<|AK (bF O O ⟨om,om⟩)<|AM O<|λa Y=>ab ?_;rw[show ((sum2 s r).map λb=>[yv b])++([[yv (UInt8.ofNat (8*s.length / 2 ^ (8*(7- r))))]])=((sum2 s (r+1)).map λb=>[yv b]) from by unfold sum2; rw[iG om]; simp] at U;rw[show 7- (r:Int)- 1=7- ((r+1:Nat):Int) from by omega] at Y;refine⟨_,?_,r+1,s6,O,om,Y.pick [0,2,3,4,5],U.select [0,1,2] de⟩;omega
 obtain rfl:r=8:=by omega
 rw[show sum2 s 8=padded s from rfl] at U;refine aN<|G7<|ah λG12=>aa λG13=>wlm Y O λa Y=>bp Y U call191 O (wK v _ _ (U.ow 0 O)) λa w12 x7 hp Y U=>?_;obtain⟨z1,z2⟩:=x7;clear hp
 try dsimp only at U
 replace U:=U.n5 O;refine G13 ?_;replace Y:=Y.p3 2 3 34 O;refine aw ?_;have hpl:=iY s;have hsh:Shp v (padded s).length:=by have:=((U.ow 2 rfl)).shp; rwa [AP] at this
 replace U:=U.n5 O;replace U:=U.s5 [4,3,2,1,0] de rfl;replace Y:=Y.p3 2 3 34 O;refine dR (M:=(·=0)) (w0:=w0) (encs:=(encC v)) (Hi:=[blk z1 [v] 60,blk z2 [jv 64] 3]) (Hc:=[blk 0 (kOf.map wv) 258,blk w0.hz (((blocks h0 (padded s) ([]:List Nat).length).l).map wv) 246,own v 5 1 ((padded s).map λb=>[yv b])]) (λpre H=>(True)∧H=[blk 0 (kOf.map wv) 258,blk w0.hz (((blocks h0 (padded s) pre.length).l).map wv) 246,own v 5 1 ((padded s).map λb=>[yv b])]) (λ_ _ _=>False) (λpre xs H a=>Fr 40 [(2,.string (⟨#[]⟩)),(3,pq w0.hz),(34,.func (.func 199) #[] #[pq z1,pq z2]),(6,(cut v 1 (64*xs) (64*xs+64) (64*xs+64)))] [] a∧(True)∧H=[blk 0 (kOf.map wv) 258,blk w0.hz (((blocks h0 (padded s) pre.length).l).map wv) 246,own v 5 1 ((padded s).map λb=>[yv b])]) O call199 Y U (sD v (padded s).length ((padded s).length / 64) z1 z2 hsh om (by have:=jT s; omega)) de (λ_=>O) ⟨trivial,O⟩ ?_ ?_ ?_ ?_
 ·clear Y U;rintro lp pre xs _ a w13 hnx ⟨htr,rfl⟩ Y U;generalize (join [blk 0 (kOf.map wv) 258,blk w0.hz (((blocks h0 (padded s) pre.length).l).map wv) 246,own v 5 1 ((padded s).map λb=>[yv b])]).foot=M1 at U⊢;refine al<|wla (Y.p4 35 2 3 34 O) O λa Y=>ab ?_;exact⟨_,⟨Y.pick [2,3,34,6],htr,O⟩,U⟩
 ·rintro lp pre xs _ a w14 hnx ⟨Y,htr,rfl⟩ hout hrec hnl U;clear hrec hnl;generalize (join [blk 0 (kOf.map wv) 258,blk w0.hz (((blocks h0 (padded s) pre.length).l).map wv) 246,own v 5 1 ((padded s).map λb=>[yv b])]).foot=M1 at U hout⊢;refine aw<|al<|wlm Y O λa Y=>lX 1 Y U de call192 O O (At U (by have:=hnx.2; omega)) O λa w15 Y U=>ab ?_;rw[show block (blocks h0 (padded s) pre.length) (((padded s).drop (64*xs)).take 64)=blocks h0 (padded s) (pre++[xs]).length from by rw[AW,List.length_singleton,blocks,hnx.1]] at U;exact⟨_,⟨trivial,O⟩,U.select [0,1,2] de⟩
 ·rintro D pre _ _ a w16 ⟨rfl,rfl⟩ ⟨htr,rfl⟩ U Y;replace Y:=Y.p3 2 3 34 O;replace U:=U.n6 O;refine G12 ?_;rw[List.length_range] at U;refine aa λG14=>wlv Y (ar (U.g 2 O) O (isAgg246 _) (by rw[AP,(W8.l_len _)]; exact sizeOf246 _)) λa Y=>au Y U call193 O (uy (blocks h0 (padded s) ((padded s).length / 64)) _) λa w17 Y U=>wla Y O λa Y=>G14<|ao ?_;have hD:=U.g 0 rfl;replace U:=U.unmark (i:=0) (o':=.deferred none) O;replace U:=U.n5 O;refine cF Y hD results168 (ae O ag) ?_;exact⟨by simp only[retv,sha],U.ext.const hk0 (U.g 0 O)⟩
 ·rintro D c pre _ _ a w18 _ h;exact h.elim
theorem vG (xs:List (List UInt8)):Lib.join xs []=xs.flatten:=by
 cases xs with
 | nil=>rfl
 | cons x r=>rw[Lib.join_cons,Lib.joinTail]; simp
theorem y6 (lv:Value) (xs:List (List UInt8)) (w0:World) (h:SlAt w0 lv 1 (xs.map λs=>[sv s])) (hn:xs.length≤1000) (hlen:xs.flatten.length≤140737488355328):
  Ff 198 #[lv,sv []] w0 (sv xs.flatten):=by
 have hbig:=h.le;rw[AP] at hbig;rcases h.2.2 with⟨rfl,h0⟩|⟨b,off,cap,rfl,hc,hb,hcells⟩
 ·obtain rfl:xs=[]:=by simpa using h0
  exact (Tryz.strings_Join_none none 0 ⟨#[]⟩ w0).mono λe w ⟨he,hw⟩=>⟨_,he,O,by rw[hw]; exact Ext.refl _ _⟩
 ·have hm:((xs.map λs=>(⟨s.toArray⟩:ByteArray)).map (·.data.toList))=xs:=by simp[Function.comp_def]
  have hf:(xs.map λs=>[sv s]).flatten=xs.map sv:=by
   clear hcells hc hb h hlen hbig hm hn
   induction xs with
   | nil=>rfl
   | cons x xs ih=>rw[BL,List.flatten_cons,ih]; rfl
  have hj:Lib.join ((xs.map λs=>(⟨s.toArray⟩:ByteArray)).map (·.data.toList)) (ByteArray.mk #[]).data.toList=xs.flatten:=by rw[hm]; exact vG xs
  rw[hf] at hcells
  have:=Tryz.strings_Join b off cap (xs.map λs=>⟨s.toArray⟩) ⟨#[]⟩ w0 (λj x hx=>by
   refine hcells j _ ?_;rw[BT] at hx⊢;cases hq:xs[j]? with
   | none=>rw[hq] at hx; cases hx
   | some z=>rw[hq] at hx; cases hx; rfl) hb Df (by simpa using hc) (by rw[hj]; exact hlen)
  rw[hj] at this;simp only[AP] at this⊢;exact this.mono λe w ⟨he,hw⟩=>⟨_,he,O,Ext.of_below hw⟩
theorem vQ (s t:List UInt8):((⟨s.toArray⟩:ByteArray)++(⟨t.toArray⟩:ByteArray))=⟨(s++t).toArray⟩:=by
 apply ByteArray.ext;simp[ByteArray.data_append]
theorem dJ {P:Program} {w:World} {L:List (Nat × Value)} {dst:Option Tmp} {T T' ty:TypeId} {pos:String} {af:Array Edge} {gd:Option (Nat × Bool)} {x y:Operand} {s t:List UInt8} (hx:ev L x=some (sv s)) (hy:ev L y=some (sv t)) (hl:s.length+t.length≤9223372036854775807):OpV P ⟨dst,.binOp .add T x y T',ty,pos,af,gd⟩ L w (sv (s++t)):=
 eC hx hy rfl (by
  show (Op.stringOp .add ⟨s.toArray⟩ ⟨t.toArray⟩).run P w=_;rw[run_string_add_sum w _ _ (by simpa [ByteArray.size] using hl),vQ]; rfl)
theorem mW (mark:List UInt8) (xs:List (List UInt8)) (lv:Value) (b:Nat) (w0:World) (hb:(blk b [sv mark] 9).ok w0) (hlv:SlAt w0 lv 1 (xs.map λs=>[sv s])) (hxn:xs.length≤1000) (hml:mark.length≤1000) (hlen0:xs.flatten.length≤90000000) (hk0:(blk 0 (kOf.map wv) 258).ok w0):
  Ff 197 #[lv,pq b] w0 (sv (sha (mark++xs.flatten))):=by
 have hlen:xs.flatten.length≤140737488355328:=by omega
 refine Cx func197 O ntmps197 (lb O) λa Y U=>aa λG1=>wla Y O λa Y=>G1<|ah λG2=>aL (aM λw1 hxz=>?_);replace U:=U.grow hxz;refine aP (k:=0) 3 [0,2] Y ?_;refine bB 3 (Y.p3 0 1 3 O) U<|pl_w (λU=>bX (U.keepb hb) O (isAgg9 _) O)<|pl_m O<|pl_r (λU=>bu call198 O (y6 lv xs _ (U.arg hlv) (by simpa using hxn) (by simpa using hlen))) λa w2 Y U=>?_;replace Y:=Y.p2 4 6 O;refine ab<|aI (k:=3) 6 [5] ?_;refine wlv Y (dJ O O Dm) λa Y=>au Y U call168 O (yb (mark++xs.flatten) _ (U.keepb hk0) (by simp only[AW]; omega)) λa w3 Y U=>wla Y O λa Y=>ab<|aO<|G2<|ao<|am Y results197 (ae O ag) ?_;exact⟨by rfl,U.ext⟩
theorem ot (mark:List UInt8) (w0:World):
  Ret Tryz.prog 176 #[sv mark] w0 (MemR w0 (λb:Nat=>.func (.func 197) #[] #[pq b]) (λb=>[blk b [sv mark] 9]) (λ_=>True)):=by
 refine Cy func176 O ntmps176 (lb O) λa Y U=>aa λG1=>aR Y U O [sv mark] O λa w1 Y U=>wla Y O λa Y=>G1<|aa λG2=>nv Y<|AK (ct O O)<|AM O<|λa Y=>G2<|ao<|am Y results176 (ae O ag) ?_;exact⟨w0.hz,O,trivial,U.ext,St.out (H:=[]) U⟩
theorem lf (s:List UInt8) (w0:World) (hs:s.length≤40000000) (hk0:(blk 0 (kOf.map wv) 258).ok w0):
  Ff 139 #[sv s] w0 (sv (sha (0::s))):=by
 refine Cy func139 O ntmps139 (lb O) λa Y U=>aa λG1=>wla Y O λa Y=>G1<|aa λG2=>bp Y U call176 O (ot [0] _) λa w1 x1 hp Y U=>?_;revert x1 hp Y U; rintro bm hp Y U;clear hp;replace U:=U.n1 O;refine wlm Y O λa Y=>aG (E:=9) (sz:=1) O [[sv s]] kr sm O de de Y U λa w2 Y U=>dO Y U O call197 O (mW [0] [s] (.slice (some ⟨w1.hz,0,none⟩) 1 1) bm _ (U.g 1 O) (U.ow 0 O) sm sm Df (U.keepb hk0)) λa w3 Y U=>wla Y O λa Y=>G2<|ao<|am Y results139 (ae O ag) ?_;exact⟨by simp[retv],U.ext⟩
theorem iu (s t:List UInt8) (w0:World) (hs:s.length≤40000000) (ht:t.length≤40000000) (hk0:(blk 0 (kOf.map wv) 258).ok w0):
  Ff 138 #[sv s,sv t] w0 (sv (sha (1::(s++t)))):=by
 refine Cx func138 O ntmps138 (lb O) λa Y U=>aa λG1=>wla Y O λa Y=>G1<|aa λG2=>bp Y U call176 O (ot [1] _) λa w1 x1 hp Y U=>?_;revert x1 hp Y U; rintro bm hp Y U;clear hp;replace U:=U.n1 O;refine nv Y<|AL O<|AL O<|λa Y=>aG (E:=9) (sz:=1) O [[sv s],[sv t]] kr sm O de de Y U λa w2 Y U=>dO Y U O call197 O (mW [1] [s,t] (.slice (some ⟨w1.hz,0,none⟩) 2 2) bm _ (U.g 1 O) (U.ow 0 O) sm sm Df (U.keepb hk0)) λa w3 Y U=>wla Y O λa Y=>G2 ?_;replace Y:=Y.p1 4 O;replace U:=U.k0 0 O;refine ao<|am Y results138 (ae O ag) ?_;exact⟨by simp[retv],U.ext⟩
theorem lS:∀(f x:Nat),0<x→x<2 ^ f→Lib.bitLenAux f x=Nat.log2 x+1
 | 0,x,h0,h=>by simp at h; omega
 | f+1,x,h0,h=>by
  rw[Lib.bitLenAux,Bc om,Nat.log2_def]
  by_cases h2:2≤x
  ·rw[Bi h2,lS f (x / 2) om (by rw[Nat.pow_succ] at h; omega)]; omega
  ·rw[Bc h2];have:x / 2=0:=by omega
   rw[this];cases f<;>simp[Lib.bitLenAux]
theorem rS {x:Nat} (h0:0<x) (h:x<18446744073709551616):Lib.bitLen x=Nat.log2 x+1:=lS 64 x h0 EA
theorem zf (x:Int) (m:Nat) (w0:World) (h0:0≤x) (h1:x≤18446744073709551615) (hm:x.toNat=m) (hp:0<m):Ret Tryz.prog 171 #[.int .u64 x] w0 λv w=>v=jv ((Nat.log2 m+1:Nat):Int)∧Ext No w0 w:=
 (Tryz.bits_Len x w0 h0 h1).mono λe w ⟨he,hw⟩=>⟨_,he,by rw[hm,rS hp om],by rw[hw]; exact Ext.refl _ _⟩
theorem yK {P:Program} {w:World} {L:List (Nat × Value)} {dst:Option Tmp} {T T' ty:TypeId} {pos:String} {af:Array Edge} {gd:Option (Nat × Bool)} {x y:Operand} {k:IntKind} {n:Nat} (hn:n≤62) (hx:ev L x=some (jv 1)) (hy:ev L y=some (.int k (n:Int))):OpV P ⟨dst,.binOp .shl T x y T',ty,pos,af,gd⟩ L w (jv ((2 ^ n:Nat):Int)):=
 eC hx hy rfl (by
  have h0:¬((n:Int)<0):=by omega
  show (Op.shift .shl .i64 1 k (n:Int)).run P w=_;simp only[Op.shift,Bc h0,BD];show Result.ok (jv (IntKind.i64.wrap (1*2 ^ (min n 64)))) w=_;have hle:2 ^ n≤2 ^ 62:=Nat.pow_le_pow_right de hn;have:(1:Int)*2 ^ (min n 64)=((2 ^ n:Nat):Int):=by rw[Nat.min_eq_left om,Int.one_mul]; push_cast; rfl
  rw[this];clear this;generalize 2 ^ n=q at hle⊢;rw[IntWalk.i64_in (q:Int) (by constructor<;>omega)])
theorem xf {n j q:Nat} (h2:2≤n) (hq:2 ^ j=q) (hp:0<q) (h:¬(q:Int)<(n:Int)- q) (hj:q<n):q=lft n:=by
 subst hq;unfold lft;congr 1;have:2 ^ j≤n- 1:=by omega
 have h3:n- 1<2*2 ^ j:=by omega
 exact ((Nat.log2_eq_iff om).2 ⟨this,by rw[Nat.pow_succ,Nat.mul_comm]; exact h3⟩).symm
theorem uE {n:Nat} (h2:2≤n) (hn:n≤9223372036854775807):Nat.log2 (n- 1)≤62:=by
 have:=(Nat.log2_lt (n:=n- 1) (k:=63) om).2 om;omega
theorem un (n:Nat) (w0:World) (h2:2≤n) (hn:n≤9223372036854775807):
  Ff 126 #[jv (n:Int)] w0 (jv (lft n:Int)):=by
 have hlb:=uE h2 hn;refine Cy func126 O ntmps126 (lb O) λa Y U=>aa λG1=>wla Y O λa Y=>G1<|aa λG2=>nv Y<|AL O<|AK (bF O O ⟨om,om⟩)<|AK (eD O kr underlying191)<|λa Y=>au Y U call171 O (zf _ (n- 1) _ om om om om) λa w1 Y U=>nv Y<|AK ((bF O O ⟨om,om⟩).asi (m':=((Nat.log2 (n- 1):Nat):Int)) om)<|AK (yK (n:=(Nat.log2 (n- 1))) om O O)<|AM O<|λa Y=>G2 ?_;replace Y:=Y.p1 2 O;refine ao<|am Y results126 (ae O ag) ?_;exact⟨by rfl,U.ext⟩
theorem mj (n:Nat) (w0:World) (h2:2≤n) (hn:n≤9223372036854775807):
  Ff 157 #[jv (n:Int)] w0 (jv (lft n:Int)):=by
 refine Cy func157 O ntmps157 (lb O) λa Y U=>aa λG1=>wla Y O λa Y=>G1<|aa λG2=>wla Y O λa Y=>G2<|ah λG3=>aw<|aV (λm a w=>∃(j:Nat) (q:Nat),m=n- q∧(2 ^ j=q)∧(0<q)∧(q<n)∧Fr 12 [(0,jv (n:Int)),(2,jv 0),(3,jv (q:Int))] [] a∧St No w0 [] w) _ ⟨0,1,O,O,om,om,Y.pick [0,2,3],U.select [] de⟩ ?_;rintro _ a w1 ⟨j,q,rfl,hq,hp,hj,Y,U⟩;refine ah λG4=>aa λG5=>nv Y<|AL O<|AL O<|AL O<|AK (bF O O ⟨om,om⟩)<|AK (v_lt O O)<|λa Y=>G5<|ay Y O (λhc1=>?_) (λhc1=>?_)
 ·refine ap<|G4<|aw<|al<|nv Y<|AL O<|AK ((ey O O ⟨om,om⟩).asi (m':=((2*q:Nat):Int)) om)<|AM O<|λa Y=>ab ?_;refine⟨_,?_,j+1,2*q,O,(by rw[Nat.pow_succ,hq,Nat.mul_comm]),om,om,Y.pick [0,2,3],U.select [] de⟩;omega
 have hfin:=xf h2 hq hp om hj;refine aN<|G3<|aa λG6=>nv Y<|AL O<|AM O<|λa Y=>G6 ?_;replace Y:=Y.p1 2 O;refine ao<|am Y results157 (ae O ag) ?_;exact⟨by simp only[retv]; rw[hfin]; try rfl,U.ext⟩
theorem rb (s:List UInt8) (w0:World):
  Ff 188 #[sv s] w0 (.bool (decide ((s.length:Int)=32))):=by
 refine Cy func188 O ntmps188 (lb O) λa Y U=>aa λG1=>wla Y O λa Y=>G1<|aa λG2=>nv Y<|AL O<|AK (aZ O O (runUnderlying9 _))<|AK (v_eq O O)<|AM O<|λa Y=>G2<|ao<|am Y results188 (ae O ag) ?_;exact⟨by rfl,U.ext⟩
theorem xT (r:List UInt8) (first:Bool) (s:List UInt8) (w0:World) (hr:r.length≤40000000) (hs:s.length≤40000000) (hk0:(blk 0 (kOf.map wv) 258).ok w0):
  Ff 161 #[.agg #[sv r,.bool first],sv s] w0 (sv (sha (1::(if first then r++s else s++r)))):=by
 refine Cx func161 O ntmps161 (lb O) λa Y U=>aa λG1=>aR Y U O [sv r,.bool first] O λa w1 Y U=>wla Y O λa Y=>G1<|ah λG2=>aa λG3=>nv Y<|AK (ac (v:=po w0.hz 1) O kr)<|AK (ld U 0 O O (isAgg4 _) O)<|λa Y=>G3<|bn Y O (λhc1=>?_) (λhc1=>?_)
 ·refine aa λG4=>nv Y<|AK (ac (v:=pq w0.hz) O kr)<|AK (ld U 0 O O (isAgg9 _) O)<|AL O<|λa Y=>au Y U call138 O (iu r s _ om om (U.keepb hk0)) λa w2 Y U=>wla Y O λa Y=>G4 ?_;replace Y:=Y.p3 1 2 4 O;refine ao<|am Y results161 (ae O ag) ?_;exact⟨by simp_all [retv],U.ext⟩
 refine ap<|G2<|aa λG5=>nv Y<|AL O<|AK (ac (v:=pq w0.hz) O kr)<|AK (ld U 0 O O (isAgg9 _) O)<|λa Y=>au Y U call138 O (iu s r _ om om (U.keepb hk0)) λa w3 Y U=>wla Y O λa Y=>G5 ?_;replace Y:=Y.p1 4 O;replace U:=U.k0 0 O;refine ao<|am Y results161 (ae O ag) ?_;exact⟨by simp_all [retv],U.ext⟩
def encB (xs:List By) (k:Nat):List Value:=[jv (k:Int),sv (xs.getD k [])]
def NxB (n:Nat) (pre:List Nat) (x:Nat):Prop:=x+1+pre.length=n
def backs (n:Nat):Nat→List Nat
 | 0=>[]
 | j+1=>backs n j++[n- 1- j]
theorem nN (n j:Nat):(backs n j).length=j:=by
 induction j with
 | zero=>rfl
 | succ j ih=>rw[backs,AW,ih]; rfl
theorem iZ {α β:Type} (f:β→α→β) (d:α) (xs:List α):∀(j:Nat) (r:β),j≤xs.length→(backs xs.length j).foldl (λo k=>f o (xs.getD k d)) r=((xs.drop (xs.length- j)).reverse).foldl f r
 | 0,r,h=>by rw[Nat.sub_zero,List.drop_length]; rfl
 | j+1,r,h=>by
  rw[backs,List.foldl_append,iZ f d xs j r om]
  have hd:xs.drop (xs.length- (j+1))=xs.getD (xs.length- 1- j) d::xs.drop (xs.length- j):=by
   have hk:xs.length- (j+1)<xs.length:=by omega
   rw[BK hk,show xs.length- (j+1)+1=xs.length- j from by omega,AY,show xs.length- 1- j=xs.length- (j+1) from by omega,A2 hk];rfl
  rw[hd,List.reverse_cons,List.foldl_append]; rfl
theorem xz {M:Nat→Prop} {w0:World} (v:Value) (xs:List By) (lp b1:Nat) (J Jx:List Nat→Ent→Prop) (hY:Rounds Tryz.prog M w0 lp (encB xs) (NxB xs.length) J Jx) (e0:Ent) (ws:World) (hn:xs.length≤1000000) (hJ:J [] e0) (U:St M w0 [e0,blk b1 [v] 44,own v 9 1 (xs.map λs=>[sv s])] ws):
  Ret Tryz.prog 194 #[.func (.yield lp) #[] #[],pq b1] ws λ_ w=>∃e1 Hi1,St M w0 (e1::Hi1) w∧((∃ys,(ys=backs xs.length xs.length∧Hi1=[blk b1 [v] 44,own v 9 1 (xs.map λs=>[sv s])])∧J ys e1)∨(∃pre,Hi1=[blk b1 [v] 44,own v 9 1 (xs.map λs=>[sv s])]∧Jx pre e1)):=by
 refine aD func194 O ntmps194 (lb O) λa Y=>?_;replace Y:=Y.p2 0 1 O;skip;refine aa λG1=>nv Y<|AK (ld U 1 O O (isAgg44 _) O)<|AK ((aH (sT:=44) (U.ow 2 O) O O (runUnderlying44 _)).asi (m':=(xs.length:Int)) sm)<|AK (bF O O ⟨om,om⟩)<|AM O<|λa Y=>G1<|aw ?_;rw[show (xs.length:Int)- 1=(xs.length:Int)- 1- ((0:Nat):Int) from by omega] at Y;refine aV (λm a w=>∃(j:Nat) (e:Ent),m=xs.length- j∧(j≤xs.length)∧(J (backs xs.length j) e)∧Fr 19 [(0,.func (.yield lp) #[] #[]),(1,pq b1),(3,jv ((xs.length:Int)- 1- (j:Int)))] [] a∧St M w0 [e,blk b1 [v] 44,own v 9 1 (xs.map λs=>[sv s])] w) _ ⟨0,e0,O,A8 _,hJ,Y.pick [0,1,3],U⟩ ?_;rintro _ a w1 ⟨j,e,rfl,hj,hJ,Y,U⟩;refine ah λG2=>aa λG3=>nv Y<|AL O<|AK (v_ge O O)<|λa Y=>G3<|ay Y O (λhc1=>?_) (λhc1=>?_)
 ·have hjl:j<xs.length:=by omega
  refine ap<|G2<|ah λG4=>aw ?_;have hidx:(xs.length:Int)- 1- (j:Int)=((xs.length- 1- j:Nat):Int):=by omega
  refine aa λG5=>nv Y<|AL O<|AL O<|AK (ld U 1 O O (isAgg44 _) O)<|AL O<|AK ((ai (i:=(xs.length:Int)- 1- (j:Int)) (sT:=44) (U.ow 2 O) O O (runUnderlying44 _) (sizeOf9 _) om Df).as (v':=slAddr v ((xs.length- 1- j)*1)) Ec)<|AK (az (u:=sv (xs.getD (xs.length- 1- j) [])) (i:=(xs.length- 1- j)) (j:=0) (U.ow 2 O) Df O (isAgg9 _) (by simp[AY,A2 (show (xs.length- 1- j)<xs.length by omega)]))<|λa Y=>?_;rw[hidx] at Y;refine wl_r (f9 O O (hY.yield (pre:=backs xs.length j) (x:=xs.length- 1- j) Ef hJ (U.only (i:=0) O))) O O Y λa v w2 hR Y=>?_;obtain⟨y2,e3,rfl,hx,hok,hft,hJt,hJf⟩:=hR;replace U:=U.exchange (k:=0) rfl hx hok hft;replace U:=U.n3 O;clear hx hok hft;refine wlv Y (bd O) λa Y=>G5 ?_;replace Y:=Y.p4 0 1 3 18 O;refine bn Y O (λhc4=>?_) (λhc4=>?_)
  ·try simp only[qz] at hc4
   have hJ:=hJf hc4;refine ao<|am Y results194 ag ?_;exact⟨_,_,U,.inr ⟨_,O,hJ⟩⟩
  try simp only[qz] at hc4
  have hJ:=hJt hc4;refine ap<|G4<|al<|nv Y<|AL O<|AK (bF O O ⟨om,om⟩)<|AM O<|λa Y=>ab ?_;rw[show ((xs.length- 1- j:Nat):Int)- 1=(xs.length:Int)- 1- ((j+1:Nat):Int) from by omega] at Y;refine⟨_,?_,j+1,e3,O,om,hJ,Y.pick [0,1,3],U⟩;omega
 obtain rfl:j=xs.length:=by omega
 refine aN<|cY Y results194 ag ?_;exact⟨_,_,U,.inl ⟨_,⟨O,O⟩,hJ⟩⟩
theorem u0 {M:Nat→Prop} {w0:World} (v:Value) (xs:List By) (b1:Nat) (hn:xs.length≤1000000):
  Iter Tryz.prog 194 [pq b1] (encB xs) (NxB xs.length) (λys Hi=>ys=backs xs.length xs.length∧Hi=[blk b1 [v] 44,own v 9 1 (xs.map λs=>[sv s])]) (λpre Hi=>Hi=[blk b1 [v] 44,own v 9 1 (xs.map λs=>[sv s])]) M w0 [blk b1 [v] 44,own v 9 1 (xs.map λs=>[sv s])]:=
 λlp J Jx w e hY hJ U=>xz v xs lp b1 J Jx hY e w hn hJ U
theorem zx (v:Value) (els:List (List Value)) (w0:World) (hv:SlAt w0 v 1 els):
  Ret Tryz.prog 169 #[v] w0 (MemR w0 (λz:Nat=>.func (.func 194) #[] #[pq z]) (λz=>[blk z [v] 44]) (λ_=>True)):=by
 refine Cy func169 O ntmps169 (lb O) λa Y U=>aa λG1=>aR Y U O [v] (by rw[(U.arg hv).cells]) λa w1 Y U=>wla Y O λa Y=>G1<|aa λG2=>nv Y<|AK (ct O O)<|AM O<|λa Y=>G2<|ao<|am Y results169 (ae O ag) ?_;exact⟨w0.hz,O,trivial,U.ext,St.out (H:=[]) U⟩
theorem vO {M:Nat→Prop} {wb:World} {H:List Ent} {sv:Value} {els:List (List Value)} {caps:List Value} {g:FuncId} (p:Nat→Bool) (ev_:Nat→Value) (J:Nat→Ent→Prop) (e0:Ent) (w0:World)
  (hen:∀args w,(callFunc g args).run Tryz.prog w=.ok (.enter g args) w) (hs:∀e w,St M wb (e::H) w→SlAt w sv 1 els)
  (hev:∀k (h:k<els.length),(els[k])[0]?=some (ev_ k)) (hJ0:J 0 e0) (U:St M wb (e0::H) w0)
  (hcl:∀k e w,k<els.length→J k e→e.ok w→(∀b,e.foot b→b<w.hz)→Ret Tryz.prog g ([ev_ k]++caps).toArray w λv w'=>v=.bool (p k)∧∃e',Ext e.foot w w'∧e'.ok w'∧(∀b,e'.foot b→b<w'.heap.size∧(e.foot b∨w.hz≤b))∧J (k+1) e'):
  Ret Tryz.prog 182 #[sv,.func (.func g) #[] caps.toArray] w0 λv w=>v=jv (fstIdx p els.length)∧∃k e',J k e'∧St M wb (e'::H) w:=by
 have hsl:=(hs _ _ U).le;refine aD func182 O ntmps182 (lb O) λa Y=>aa λG1=>wla (Y.p2 0 1 O) O λa Y=>G1<|ah λG2=>aa λG3=>nv Y<|AL O<|AK (aH (sT:=44) (hs _ _ U) O O (runUnderlying44 _))<|AL O<|λa Y=>G3<|aw<|aV (λm a w=>∃(k:Nat) (e:Ent),m=els.length- k∧(k≤els.length)∧(∀j,j<k→p j=false)∧(J k e)∧Fr 19 [(0,sv),(1,.func (.func g) #[] caps.toArray),(6,sv),(7,jv els.length),(8,jv (k:Int))] [] a∧St M wb (e::H) w) _ ⟨0,e0,O,A8 _,(by intro j hj; omega),hJ0,Y.pick [0,1,6,7,8],U⟩ ?_;rintro _ a w1 ⟨k,e,rfl,hk,hp,hJ,Y,U⟩;refine aa λG4=>wlv Y (v_lt O O) λa Y=>G4<|ah λG5=>ay Y O (λhc1=>?_) (λhc1=>?_)
 ·rw[AQ hc1] at Y;refine ap<|G5<|ah λG6=>aw<|aa λG7=>nv Y<|AL O<|AM O<|λa Y=>G7<|aa λG8=>nv Y<|AL O<|AL O<|AL O<|AK ((ai (i:=(k:Int)) (sT:=44) (hs _ _ U) O O (runUnderlying44 _) (sizeOf9 _) om om).as (v':=slAddr sv (k*1)) O)<|AK ((az (u:=ev_ k) (i:=k) (j:=0) (hs _ _ U) om O (isAgg9 _) (hev k om)))<|λa Y=>wl_r (g7 (cap:=caps) O hen O (hcl k _ _ om hJ (U.g 0 O) (λb hb=>U.lt (k:=0) O hb))) O O Y λa v w2 hR Y=>?_;obtain⟨rfl,e1,hx,hok,hft,hJ1⟩:=hR;have U:=U.exchange (k:=0) rfl hx hok hft;have U:St M wb (e1::H) w2:=U;refine G8<|bn Y O (λhc2=>?_) (λhc2=>?_)
  ·rw[hc2] at Y;refine aa λG9=>nv Y<|AL O<|AM O<|λa Y=>G9<|ao<|am Y results182 (ae O ag) ?_;exact⟨by rw[fF (k:=k) om hp CL]; rfl,_,_,hJ1,U⟩
  rw[hc2] at Y;refine ap<|G6<|al<|nv Y<|AK (aK O O ⟨om,om⟩)<|AL O<|λa Y=>ab ?_;refine⟨_,?_,k+1,e1,O,om,DN,hJ1,Y.pick [0,1,6,7,8],U⟩;omega
 rw[AV hc1] at Y;refine aN<|G2<|aa λG10=>wla Y O λa Y=>G10<|ao<|am Y results182 (ae O ag) ?_;have hkl:k=els.length:=by omega
 subst hkl;exact⟨by rw[fE hp]; rfl,_,_,hJ,U⟩
theorem jY {M:Nat→Prop} {wb:World} {H:List Ent} {sv:Value} {els:List (List Value)} {caps:List Value} {g:FuncId} (p:Nat→Bool) (ev_:Nat→Value) (J:Nat→Ent→Prop) (e0:Ent) (w0:World)
  (hen:∀args w,(callFunc g args).run Tryz.prog w=.ok (.enter g args) w) (hs:∀e w,St M wb (e::H) w→SlAt w sv 1 els)
  (hev:∀k (h:k<els.length),(els[k])[0]?=some (ev_ k)) (hJ0:J 0 e0) (U:St M wb (e0::H) w0)
  (hcl:∀k e w,k<els.length→J k e→e.ok w→(∀b,e.foot b→b<w.hz)→Ret Tryz.prog g ([ev_ k]++caps).toArray w λv w'=>v=.bool (p k)∧∃e',Ext e.foot w w'∧e'.ok w'∧(∀b,e'.foot b→b<w'.heap.size∧(e.foot b∨w.hz≤b))∧J (k+1) e'):
  Ret Tryz.prog 146 #[sv,.func (.func g) #[] caps.toArray] w0 λv w=>v=.bool ((List.range els.length).any p)∧∃k e',J k e'∧St M wb (e'::H) w:=by
 refine aD func146 O ntmps146 (lb O) λa Y=>aa λG1=>wla (Y.p2 0 1 O) O λa Y=>G1<|aa λG2=>nv Y<|AL O<|AL O<|λa Y=>wl_r (ff call182 O (vO p ev_ J e0 _ hen hs hev hJ0 U hcl)) O O Y λa v w1 hR Y=>?_;obtain⟨rfl,kk,e1,hJ1,U⟩:=hR;refine nv Y<|AK (v_ge O O)<|AM O<|λa Y=>G2<|ao<|am Y results146 (ae O ag) ?_;exact⟨by rw[iN]; rfl,_,_,hJ1,U⟩
theorem Aj (s:List UInt8) (w0:World):
  Ff 187 #[sv s] w0 (.bool (!decide ((s.length:Int)=32))):=by
 refine Cy func187 O ntmps187 (lb O) λa Y U=>aa λG1=>wla Y O λa Y=>G1<|aa λG2=>wlm Y O λa Y=>au Y U call188 O (rb s _) λa w1 Y U=>nv Y<|AK (bd O)<|AM O<|λa Y=>G2<|ao<|am Y results187 (ae O ag) ?_;exact⟨by rfl,U.ext⟩
theorem ug {w0:World}:St No w0 [PW.join []] w0:=by
 have:=St.joinTail (M:=No) (w0:=w0) (w:=w0) [] [] (St.init w0);exact this
theorem yx (lv:Value) (xs:List By) (w0:World) (h:SlAt w0 lv 1 (xs.map λs=>[sv s])):Ff 146 #[lv,.func (.func 187) #[] #[]] w0 (.bool ((List.range xs.length).any λk=>!decide (((xs.getD k []).length:Int)=32))):=by
 refine (jY (M:=No) (wb:=w0) (H:=[]) (sv:=lv) (els:=xs.map λs=>[sv s]) (caps:=[]) (g:=187) (λk=>!decide (((xs.getD k []).length:Int)=32)) (λk=>sv (xs.getD k [])) (λ_ e=>e=PW.join []) (PW.join []) w0 call187 (λe w U=>h.grow U.ext) (λk hk=>?_) O ug (λk e w hk he hok hf=>?_)).mono ?_
 ·have hk':k<xs.length:=by simpa using hk
  simp[AY,A2 hk']
 ·subst he;refine (Aj (xs.getD k []) w).mono ?_;rintro v w' ⟨hv,hx⟩;exact⟨hv,PW.join [],hx.mono (λb _ h=>h.elim),(ug (w0:=w')).get (k:=0) O,λb hb=>by obtain⟨e,he,_⟩:=hb; simp at he,rfl⟩
 ·rintro v w ⟨hv,k,e',hJ,U⟩;exact⟨by rw[hv,AP],U.ext⟩
theorem zD (xs:List By):(!(List.range xs.length).any λk=>!decide (((xs.getD k []).length:Int)=32))=xs.all λs=>decide (s.length=32):=by
 rw[Bool.eq_iff_iff];simp only[BE,BV,A6,Ct,Cs,AZ,Be];constructor
 ·intro h s hs;obtain⟨k,hk,rfl⟩:=BJ hs;have:=h k hk;rw[AY,A2 hk] at this;simp at this;omega
 ·intro h k hk;have:=h xs[k] (BF hk);rw[AY,A2 hk];simp[this]
theorem Ar (lv:Value) (xs:List By) (w0:World) (hlv:SlAt w0 lv 1 (xs.map λs=>[sv s])):
  Ff 158 #[lv] w0 (.bool (xs.all λs=>decide (s.length=32))):=by
 refine Cy func158 O ntmps158 (lb O) λa Y U=>aa λG1=>wla Y O λa Y=>G1<|aa λG2=>wla Y O λa Y=>G2<|aa λG3=>nv Y<|AL O<|AL O<|λa Y=>au Y U call146 O (yx lv xs _ (U.arg hlv)) λa w1 Y U=>nv Y<|AK (bd O)<|AM O<|λa Y=>G3 ?_;replace Y:=Y.p1 2 O;refine ao<|am Y results158 (ae O ag) ?_;exact⟨by simp only[retv]; rw[←zD]; try rfl,U.ext⟩
theorem y9 (lv:Value) (xs:List By) (w0:World) (hlv:SlAt w0 lv 1 (xs.map λs=>[sv s])) (h0:0<xs.length):
  Ff 159 #[lv] w0 (.tuple #[sv (xs.getD (xs.length- 1) []),cut lv 1 0 (xs.length- 1) (slCap lv),.bool true]):=by
 have hnb:=hlv.le;rw[AP] at hnb;refine Cy func159 O ntmps159 (lb O) λa Y U=>aa λG1=>nv Y<|AM O<|AM O<|AM O<|λa Y=>G1<|ah λG2=>aa λG3=>nv Y<|AL O<|AK ((aH (sT:=44) (U.arg hlv) O O (runUnderlying44 _)).asi (m':=(xs.length:Int)) sm)<|AK ((v_eq O O).asb (b':=false) (by rw[Bn]; omega))<|λa Y=>G3<|aJ Y O ?_;refine ap<|G2<|aa λG4=>nv Y<|AL O<|AK ((aH (sT:=44) (U.arg hlv) O O (runUnderlying44 _)).asi (m':=(xs.length:Int)) sm)<|AK (bF O O ⟨om,om⟩)<|AM O<|λa Y=>G4 ?_;replace Y:=Y.p5 0 2 3 4 5 O;refine ah λG5=>aL (aM λw1 hxz=>?_);replace U:=U.grow hxz;refine aP (k:=0) 8 [6,7] Y ?_;replace Y:=Y.p4 0 3 4 5 O;refine bB 8 Y U<|pl_m O<|pl_m O<|pl_w (λU=>(ai (i:=(xs.length:Int)- 1) (sT:=44) (U.arg hlv) O O (runUnderlying44 _) (sizeOf9 _) om Df).as (v':=slAddr lv ((xs.length- 1)*1)) EE)<|pl_w (λU=>az (u:=sv (xs.getD (xs.length- 1) [])) (i:=(xs.length- 1)) (j:=0) (U.arg hlv) Df O (isAgg9 _) (by simp[AY,A2 (show (xs.length- 1)<xs.length by omega)]))<|pl_m O<|pl_m O ?_;refine pl_w (λU=>bT (l:=0) (h:=(xs.length- 1)) (U.arg hlv) O O O underlying44 kr (.inl ⟨O,O⟩) (.inr (by rw[show ((xs.length:Int)- 1:Int)=(((xs.length- 1):Nat):Int) from by omega]<;>rfl)) (A8 _) CS)<|pl_v (cH O) λa w2 Y U=>?_;replace Y:=Y.p2 18 2 O;refine ab<|aI (k:=8) 10 [9] ?_;refine nv Y<|AM O<|AM O<|λa Y=>ab<|aO<|G5<|ao<|am Y results159 (ae O (ae O (ae O ag))) ?_;exact⟨by rfl,U.ext⟩
theorem Ae {xs:List By} {k:Nat} (hk:xs.length≤k) (h:∀j,j<k→(xs.getD j []).length=32∨xs.length≤j):(xs.all λs=>decide (s.length=32))=true:=by
 rw[Be];intro s hs;obtain⟨j,hj,rfl⟩:=BJ hs;have:=h j om;rw[AY,A2 hj] at this;simp at this⊢;omega
theorem yM {xs:List By} {k:Nat} (hk:k<xs.length) (h:¬((xs.getD k []).length:Int)=32):(xs.all λs=>decide (s.length=32))=false:=by
 rw[List.all_eq_false];refine⟨xs[k],BF hk,?_⟩;rw[AY,A2 hk] at h;simp at h⊢;omega
theorem rJ (av:Value) (xs:List By) (w0:World) (hav:SlAt w0 av 1 (xs.map λs=>[sv s])):
  Ff 163 #[av] w0 (.bool (xs.all λs=>decide (s.length=32))):=by
 have hnb:=hav.le;rw[AP] at hnb;refine Cy func163 O ntmps163 (lb O) λa Y U=>aa λG1=>wla Y O λa Y=>G1<|ah λG2=>aa λG3=>wla Y O λa Y=>G3<|aw<|aV (λm a w=>∃(k:Nat),m=xs.length- k∧(k≤xs.length)∧(∀j,j<k→(xs.getD j []).length=32)∧Fr 16 [(0,av),(3,jv (k:Int))] [] a∧St No w0 [] w) _ ⟨0,O,A8 _,(by intro j hj; omega),Y.pick [0,3],U.select [] de⟩ ?_;rintro _ a w1 ⟨k,rfl,hk,hall,Y,U⟩;refine ah λG4=>aa λG5=>nv Y<|AL O<|AL O<|AK ((aH (sT:=44) (U.arg hav) O O (runUnderlying44 _)).asi (m':=(xs.length:Int)) sm)<|AK (v_lt O O)<|λa Y=>G5<|ay Y O (λhc1=>?_) (λhc1=>?_)
 ·refine ap<|G4<|ah λG6=>aw<|aa λG7=>nv Y<|AL O<|AL O<|AK ((ai (i:=(k:Int)) (sT:=44) (U.arg hav) O O (runUnderlying44 _) (sizeOf9 _) om CH).as (v':=slAddr av (k*1)) O)<|AK (az (u:=sv (xs.getD k [])) (i:=k) (j:=0) (U.arg hav) CH O (isAgg9 _) (by simp[AY,A2 (show k<xs.length by omega)]))<|λa Y=>nv Y<|AK (aZ O O (runUnderlying9 _))<|AK (v_ne O O)<|λa Y=>G7 ?_;replace Y:=Y.p3 0 3 15 O;refine bV Y O (λhc2=>?_) (λhc2=>?_)
  ·refine aa λG8=>wla Y O λa Y=>G8<|ao<|am Y results163 (ae O ag) ?_;exact⟨by simp only[retv]; rw[yM (k:=k) om om]; try rfl,U.ext⟩
  refine ap<|G6<|al<|nv Y<|AL O<|AK (aK O O ⟨om,om⟩)<|AM O<|λa Y=>ab ?_;refine⟨_,?_,k+1,O,om,(by intro j hj; by_cases h:j=k; (subst h; omega); exact hall j om),Y.pick [0,3],U.select [] de⟩;omega
 refine aN<|G2<|aa λG9=>wla Y O λa Y=>G9 ?_;replace Y:=Y.p1 2 O;refine ao<|am Y results163 (ae O ag) ?_;exact⟨by simp only[retv]; rw[Ae (k:=k) om (λj hj=>.inl (hall j hj))]; try rfl,U.ext⟩
theorem sO (x:Wd) (n:Nat) (w0:World) (hn:0<n) (hn2:n<32):
  Ff 180 #[wv x,jv (n:Int)] w0 (wv ((x >>> n) ||| (x <<< (32- n)))):=by
 refine Cx func180 O ntmps180 (lb O) λa Y U=>aa λG1=>wla Y O λa Y=>G1<|ah λG2=>aL (aM λw1 hxz=>?_);replace U:=U.grow hxz;refine aP (k:=0) 7 [2,6] Y ?_;refine bB 7 (Y.p3 0 1 4 O) U<|pl_m O<|pl_m O<|pl_v (fL (n:=n) O O)<|pl_m O<|pl_m O<|pl_v ((bF O O ⟨om,om⟩).asi (m':=((32- n:Nat):Int)) om)<|pl_v (gE (n:=(32- n)) O O) λa w2 Y U=>?_;replace Y:=Y.p2 7 11 O;refine ab<|aI (k:=7) 9 [8] ?_;refine nv Y<|AK (kR O O)<|AM O<|λa Y=>ab<|aO<|G2<|ao<|am Y results180 (ae O ag) ?_;exact⟨by rfl,U.ext⟩
theorem tD {st:List (By × Nat)} (h:2≤st.length):∃r2 s2 r1 s1 t,st=(r2,s2)::(r1,s1)::t∧st.reverse.getD (st.length- 2) ([],0)=(r1,s1)∧st.reverse.getD (st.length- 1) ([],0)=(r2,s2)∧st.reverse.take (st.length- 2)=t.reverse:=by
 match st,h with
 | (r2,s2)::(r1,s1)::t,_=>
  refine⟨r2,s2,r1,s1,t,O,?_,?_,?_⟩<;>simp[AY,List.getElem?_append]
theorem vW {st:List (By × Nat)} (hW:incrW st) (h2:2≤st.length) (h:¬((st.reverse.getD (st.length- 2) ([],0)).2:Int)=((st.reverse.getD (st.length- 1) ([],0)).2:Int)):incr st:=by
 obtain⟨r2,s2,r1,s1,t,e,e1,e2,_⟩:=tD h2;rw[e1,e2] at h;refine hW.strict λx y t' e' he=>h ?_;rw[e] at e';injection e' with h3 h4;injection h4 with h5 h6;subst h3 h5;exact Bh Int.ofNat he.symm
theorem Stk.le:∀{st:List (By × Nat)} {l:List By},Stk sha st l→st.length≤l.length∧∀x∈st,x.1.length=32∧x.2≤l.length
 | [],l,h=>⟨A8 _,λx hx=>by cases hx⟩
 | x::st,l,h=>by
  obtain⟨l1,c,rfl,hc,⟨a,ha⟩,hr,U⟩:=h;have hp:0<c.length:=by rw[hc,ha]; exact Nat.pow_pos de
  obtain⟨i1,i2⟩:=Stk.le U;refine⟨by simp; omega,λy hy=>?_⟩;rcases A0.1 hy with rfl|hy
  ·exact⟨by rw[hr]; exact eg cV c,by rw[AW]; omega⟩
  ·have:=i2 y hy;exact⟨this.1,by rw[AW]; omega⟩
theorem xX {st:List (By × Nat)} {l:List By} (h:Stk sha st l) (hi:incr st) (h0:0<st.length):(backs ((st.drop 1).reverse.map Prod.fst).length ((st.drop 1).reverse.map Prod.fst).length).foldl (λo k=>nodeH sha (((st.drop 1).reverse.map Prod.fst).getD k []) o) (st.reverse.getD (st.length- 1) ([],0)).1=rootH sha l:=by
 match st,h0 with
 | x::st,_=>
  rw[iZ (λo r=>nodeH sha r o) [] _ _ _ (Bs _)];have e:(x::st).reverse.getD ((x::st).length- 1) ([],0)=x:=by simp[AY,List.getElem?_append]
  rw[e,Cr,List.drop_zero,List.drop_one,List.tail_cons,←List.map_reverse,List.reverse_reverse,List.foldl_map];exact td sha h hi
theorem rQ (st:List (By × Nat)):(st.reverse.map λx:By × Nat=>[sv x.1]).take (st.length- 1)=(((st.drop 1).reverse.map Prod.fst).map λs=>[sv s]):=by
 cases st with
 | nil=>rfl
 | cons x st=>simp[List.take_append,Function.comp_def]
theorem pr (lv:Value) (ls:List By) (w0:World) (hlv:SlAt w0 lv 1 (ls.map λs=>[sv s])) (hxn:ls.length≤1000) (hxl:∀k,k<ls.length→(ls.getD k []).length≤40000000) (hk0:(blk 0 (kOf.map wv) 258).ok w0):
  Ff 123 #[lv] w0 (sv (rootH sha ls)):=by
 have hnb:=hlv.le;rw[AP] at hnb;refine aD func123 O ntmps123 (lb O) λa Y=>?_;replace U:St (·=0) w0 [blk 0 (kOf.map wv) 258] w0:=St.one hk0;refine aa λG1=>wla (Y.p1 0 O) O λa Y=>G1<|aa λG2=>wla Y O λa Y=>G2<|aa λG3=>wla Y O λa Y=>G3<|ah λG4=>aa λG5=>nv Y<|AL O<|AK ((aH (sT:=44) (hlv.grow (U.ext.const hk0 (U.g 0 O))) O O (runUnderlying44 _)).asi (m':=(ls.length:Int)) sm)<|AL O<|λa Y=>G5<|aw ?_;replace U:St (·=0) w0 [own (.slice none 0 0) 9 1 (([]:List (By × Nat)).reverse.map λx:By × Nat=>[sv x.1]),own (.slice none 0 0) 3 1 (([]:List (By × Nat)).reverse.map λx:By × Nat=>[jv (x.2:Int)]),blk 0 (kOf.map wv) 258] w0:=U.nil_own.nil_own;refine aV (λm a w=>∃(k:Nat) (st:List (By × Nat)) (v:Value) (u:Value),m=ls.length- k∧(k≤ls.length)∧(Stk sha st (ls.take k))∧(incr st)∧Fr 96 [(2,.string (⟨#[]⟩)),(11,lv),(12,jv (ls.length:Int)),(13,jv (k:Int)),(3,v),(4,u)] [] a∧St (·=0) w0 [own v 9 1 (st.reverse.map λx:By × Nat=>[sv x.1]),own u 3 1 (st.reverse.map λx:By × Nat=>[jv (x.2:Int)]),blk 0 (kOf.map wv) 258] w) _ ⟨0,[],.slice none 0 0,.slice none 0 0,O,A8 _,O,trivial,Y.pick [2,11,12,13,3,4],U.select [0,1,2] de⟩ ?_;rintro _ a w1 ⟨k,st,v,u,rfl,hk,hS,hI,Y,U⟩;refine aa λG6=>wlv Y (v_lt O O) λa Y=>G6<|ah λG7=>ay Y O (λhc1=>?_) (λhc1=>?_)
 ·refine ap<|G7<|ah λG8=>aw<|aa λG9=>nv Y<|AK ((ai (i:=(k:Int)) (sT:=44) (hlv.grow (U.ext.const hk0 (U.g 2 O))) O O (runUnderlying44 _) (sizeOf9 _) om CV).as (v':=slAddr lv (k*1)) O)<|AK (az (u:=sv (ls.getD k [])) (i:=k) (j:=0) (hlv.grow (U.ext.const hk0 (U.g 2 O))) CV O (isAgg9 _) (by simp[AY,A2 (show k<ls.length by omega)]))<|AM O<|λa Y=>G9<|aa λG10=>nv Y<|AL O<|AL O<|λa Y=>au Y U call139 O (lf (ls.getD k []) _ (hxl k om) (U.g 2 O)) λa w2 Y U=>aG (E:=9) (sz:=1) O [[sv (leafH sha (ls.getD k []))]] kr sm O de de Y U λa w3 Y U=>bc (i:=1) (sT:=44) (inf:=Tryz.t9) (z:=.string (⟨#[]⟩)) (b:=0) (off:=0) (m:=0) (c:=0) O O O (U.ow 0 O) sm underlying44 O O O O de CK CN CN de Y U λa w4 s2 Y U _=>wlm Y O λa Y=>aG (E:=3) (sz:=1) O [[jv 1]] kr sm O de de Y U λa w5 Y U=>bc (i:=3) (sT:=24) (inf:=Tryz.t3) (z:=jv 0) (b:=0) (off:=0) (m:=0) (c:=0) O O O (U.ow 0 O) sm underlying24 O O O O de CK CN CN de Y U λa w6 s3 Y U _=>nv Y<|AM O<|AM O<|λa Y=>G10 ?_;replace U:=U.k3 28 O;refine aa λG11=>nv (Y.p6 2 11 12 13 3 4 O)<|AL O<|AK ((aH (sT:=24) (U.ow 1 O) O O (runUnderlying24 _)).asi (m':=((st.length+1:Nat):Int)) sm)<|AM O<|λa Y=>G11<|aw ?_;rw[show (st.reverse.map λx:By × Nat=>[sv x.1])++([[sv (leafH sha (ls.getD k []))]])=(((leafH sha (ls.getD k []),1)::st).reverse.map λx:By × Nat=>[sv x.1]) from by simp] at U;rw[show (st.reverse.map λx:By × Nat=>[jv (x.2:Int)])++([[jv 1]])=(((leafH sha (ls.getD k []),1)::st).reverse.map λx:By × Nat=>[jv (x.2:Int)]) from by simp] at U;obtain⟨hS1,hW1⟩:=Stk.push sha hS hI (ls.getD k []);rw[←cI [] om] at hS1;refine aV (λm a w=>∃(st1:List (By × Nat)) (v1:Value) (u1:Value),m=st1.length∧(Stk sha st1 (ls.take (k+1)))∧(incrW st1)∧Fr 96 [(2,.string (⟨#[]⟩)),(11,lv),(12,jv (ls.length:Int)),(13,jv (k:Int)),(7,jv (st1.length:Int)),(3,v1),(4,u1)] [] a∧St (·=0) w0 [own v1 9 1 (st1.reverse.map λx:By × Nat=>[sv x.1]),own u1 3 1 (st1.reverse.map λx:By × Nat=>[jv (x.2:Int)]),blk 0 (kOf.map wv) 258] w) _ ⟨((leafH sha (ls.getD k []),1)::st),s2,s3,O,hS1,hW1,Y.pick [2,11,12,13,7,3,4],U.select [0,1,2] de⟩ ?_;rintro _ a w7 ⟨st1,v1,u1,rfl,hS1,hW1,Y,U⟩;have hle1:=hS1.le;have hln1:st1.length≤ls.length:=Br hle1.1 De;refine ah λG12=>ah λG13=>aL (aM λw8 hxz=>?_);replace U:=U.grow hxz;refine aI (k:=0) 3 [2] ?_;refine nv Y<|AL O<|AK (v_gt O O)<|AL O<|λa Y=>ab ?_;rcases Decidable.em (1<(st1.length:Int)) with hb4|hb4
  ·rw[AQ hb4] at Y;obtain⟨r2,s2,r1,s1,t,hst0,e1,e2,e3⟩:=tD (st:=st1) om;have hb1:=hle1.2 (st1.reverse.getD (st1.length- 2) ([],0)) (List.mem_reverse.1 (bf (by rw[Bd]; omega)));have hb2:=hle1.2 (st1.reverse.getD (st1.length- 1) ([],0)) (List.mem_reverse.1 (bf (by rw[Bd]; omega)));rw[AX] at hb1 hb2;refine aP (k:=3) 13 [7,12] Y ?_;replace Y:=Y.p10 2 11 12 13 7 3 4 27 28 29 O;refine bB 10 Y U<|pl_m O<|pl_m O<|pl_v (bF O O ⟨om,om⟩)<|pl_w (λU=>(ai (i:=(st1.length:Int)- 2) (sT:=24) (U.ow 1 O) O O (runUnderlying24 _) (sizeOf3 _) om CV).as (v':=slAddr u1 ((st1.length- 2)*1)) EC)<|pl_w (λU=>az (u:=jv ((st1.reverse.getD (st1.length- 2) ([],0)).2:Int)) (i:=(st1.length- 2)) (j:=0) (U.ow 1 O) CV O (isAgg3 _) DZ)<|pl_m O<|pl_m O<|pl_v (bF O O ⟨om,om⟩) ?_;refine pl_w (λU=>(ai (i:=(st1.length:Int)- 1) (sT:=24) (U.ow 1 O) O O (runUnderlying24 _) (sizeOf3 _) om CV).as (v':=slAddr u1 ((st1.length- 1)*1)) DI)<|pl_w (λU=>az (u:=jv ((st1.reverse.getD (st1.length- 1) ([],0)).2:Int)) (i:=(st1.length- 1)) (j:=0) (U.ow 1 O) CV O (isAgg3 _) DZ) λa w9 Y U=>?_;replace Y:=Y.p10 2 11 12 13 7 3 4 29 34 39 O;refine ab<|aI (k:=13) 15 [14] ?_;refine nv Y<|AN (v_eq O O)<|AK (aq O O)<|λa Y=>ab<|aO<|G13<|ay Y O (λhc5=>?_) (λhc5=>?_)
   ·obtain rfl:s1=s2:=by rw[e1,e2] at hc5; simp only at hc5; omega
    refine ap<|G12<|ah λG14=>aw<|ah λG15=>aL (aM λw10 hxz=>?_);replace U:=U.grow hxz;refine aP (k:=0) 16 [3,15] Y ?_;replace Y:=Y.p10 2 11 12 13 7 3 4 29 34 39 O;refine bE [15] (λi=>match i with|15=>pm (λb:Nat=>.slice (some ⟨b,0,none⟩) 1 1) (λb=>[own (.slice (some ⟨b,0,none⟩) 1 1) 9 1 [[sv (nodeH sha ((st1.reverse.getD (st1.length- 2) ([],0)).1) ((st1.reverse.getD (st1.length- 1) ([],0)).1))]]]) (λ_=>True)|_=>λ_ _=>False) 16 [[],[],[1],[0,2],[],[],[5],[4,6],[7],[],[],[10],[9,11],[12],[8,13],[14]] [v1,jv (st1.length:Int),jv ((st1.length:Int)- 2),(cut v1 1 0 (st1.length- 2) (slCap v1)),v1,jv (st1.length:Int),jv ((st1.length:Int)- 2),slAddr v1 ((st1.length- 2)*1),sv ((st1.reverse.getD (st1.length- 2) ([],0)).1),v1,jv (st1.length:Int),jv ((st1.length:Int)- 1),slAddr v1 ((st1.length- 1)*1),sv ((st1.reverse.getD (st1.length- 1) ([],0)).1),sv (nodeH sha ((st1.reverse.getD (st1.length- 2) ([],0)).1) ((st1.reverse.getD (st1.length- 1) ([],0)).1)),undef] Y U ?_ ?_ ?_
    ·exact CG<|hqv (ax rfl)<|hqv (ax rfl)<|hqv (bF rfl rfl ⟨om,om⟩)<|hqw (λU=>bT (l:=0) (h:=(st1.length- 2)) (U.ow 0 rfl) rfl rfl rfl underlying44 kr (.inl ⟨rfl,rfl⟩) (.inr D3) (A8 _) CS)<|hqv (ax rfl)<|hqv (ax rfl)<|hqv (bF rfl rfl ⟨om,om⟩)<|hqw (λU=>(ai (i:=(st1.length:Int)- 2) (sT:=44) (U.ow 0 rfl) rfl rfl (runUnderlying44 _) (sizeOf9 _) om CV).as (v':=slAddr v1 ((st1.length- 2)*1)) EC)<|
      hqw (λU=>az (u:=sv ((st1.reverse.getD (st1.length- 2) ([],0)).1)) (i:=(st1.length- 2)) (j:=0) (U.ow 0 rfl) CV rfl (isAgg9 _) DZ)<|hqv (ax rfl)<|hqv (ax rfl)<|hqv (bF rfl rfl ⟨om,om⟩)<|hqw (λU=>(ai (i:=(st1.length:Int)- 1) (sT:=44) (U.ow 0 rfl) rfl rfl (runUnderlying44 _) (sizeOf9 _) om CV).as (v':=slAddr v1 ((st1.length- 1)*1)) DI)<|hqw (λU=>az (u:=sv ((st1.reverse.getD (st1.length- 1) ([],0)).1)) (i:=(st1.length- 1)) (j:=0) (U.ow 0 rfl) CV rfl (isAgg9 _) DZ)<|
      CE (λ_ _ U=>bu call138 rfl (iu ((st1.reverse.getD (st1.length- 2) ([],0)).1) ((st1.reverse.getD (st1.length- 1) ([],0)).1) _ Eh D5 (U.g 2 rfl)))<|CE (λh=>absurd sm h)<|CF
    ·intro i hi;simp only[A0,A4,Bm] at hi;subst hi
     ·intro w U;exact bL (E:=9) (sz:=1) O [[sv (nodeH sha ((st1.reverse.getD (st1.length- 2) ([],0)).1) ((st1.reverse.getD (st1.length- 1) ([],0)).1))]] (λ_=>by kernel_rfl) sm O de
    clear Y U;rintro _ _ ⟨b6,rfl, -,rfl⟩ a w11 Y U;replace Y:=Y.p8 47 59 2 11 12 13 7 4 O;replace U:=U.n4 O;refine ab<|aI (k:=16) 18 [17] ?_;replace U:St (·=0) w0 [own (.slice (some ⟨b6,0,none⟩) 1 1) 9 1 ([[sv (nodeH sha ((st1.reverse.getD (st1.length- 2) ([],0)).1) ((st1.reverse.getD (st1.length- 1) ([],0)).1))]]),own (cut v1 1 0 (st1.length- 2) (slCap v1)) 9 1 ((st1.reverse.map λx:By × Nat=>[sv x.1]).take (st1.length- 2)),own u1 3 1 (st1.reverse.map λx:By × Nat=>[jv (x.2:Int)]),blk 0 (kOf.map wv) 258] w11:=U.take (i:=1) (k:=(st1.length- 2)) rfl (by simp<;>omega);refine bc (i:=1) (sT:=44) (inf:=Tryz.t9) (z:=.string (⟨#[]⟩)) (b:=0) (off:=0) (m:=0) (c:=0) O O O (U.ow 0 O) sm underlying44 O O O O de CK CN CN de Y U λa w12 s7 Y U _=>wla Y O λa Y=>ab<|aO<|G15 ?_;replace Y:=Y.p7 2 11 12 13 7 4 3 O;replace U:=U.k3 14 O;refine aL (aM λw13 hxz=>?_);replace U:=U.grow hxz;refine aP (k:=0) 11 [3,10] Y ?_;replace Y:=Y.p7 2 11 12 13 7 4 3 O;refine bE [10] (λi=>match i with|10=>pm (λb:Nat=>.slice (some ⟨b,0,none⟩) 1 1) (λb=>[own (.slice (some ⟨b,0,none⟩) 1 1) 3 1 [[jv (2*((st1.reverse.getD (st1.length- 1) ([],0)).2:Int))]]]) (λ_=>True)|_=>λ_ _=>False) 11 [[],[],[1],[0,2],[],[],[5],[4,6],[7],[8],[9]] [u1,jv (st1.length:Int),jv ((st1.length:Int)- 2),(cut u1 1 0 (st1.length- 2) (slCap u1)),u1,jv (st1.length:Int),jv ((st1.length:Int)- 1),slAddr u1 ((st1.length- 1)*1),jv ((st1.reverse.getD (st1.length- 1) ([],0)).2:Int),jv (2*((st1.reverse.getD (st1.length- 1) ([],0)).2:Int)),undef] Y U ?_ ?_ ?_
    ·exact CG<|hqv (ax rfl)<|hqv (ax rfl)<|hqv (bF rfl rfl ⟨om,om⟩)<|hqw (λU=>bT (l:=0) (h:=(st1.length- 2)) (U.ow 1 rfl) rfl rfl rfl underlying24 kr (.inl ⟨rfl,rfl⟩) (.inr D3) (A8 _) CS)<|hqv (ax rfl)<|hqv (ax rfl)<|hqv (bF rfl rfl ⟨om,om⟩)<|hqw (λU=>(ai (i:=(st1.length:Int)- 1) (sT:=24) (U.ow 1 rfl) rfl rfl (runUnderlying24 _) (sizeOf3 _) om CV).as (v':=slAddr u1 ((st1.length- 1)*1)) DI)<|
      hqw (λU=>az (u:=jv ((st1.reverse.getD (st1.length- 1) ([],0)).2:Int)) (i:=(st1.length- 1)) (j:=0) (U.ow 1 rfl) CV rfl (isAgg3 _) DZ)<|hqv (ey rfl rfl ⟨om,om⟩)<|CE (λh=>absurd sm h)<|CF
    ·intro i hi;simp only[A0,A4,Bm] at hi;subst hi
     ·intro w U;exact bL (E:=3) (sz:=1) O [[jv (2*((st1.reverse.getD (st1.length- 1) ([],0)).2:Int))]] (λ_=>by kernel_rfl) sm O de
    clear Y U;rintro _ _ ⟨b8,rfl, -,rfl⟩ a w14 Y U;replace Y:=Y.p8 64 71 2 11 12 13 7 3 O;replace U:=U.n4 O;refine ab<|aI (k:=11) 13 [12] ?_;replace U:St (·=0) w0 [own (.slice (some ⟨b8,0,none⟩) 1 1) 3 1 ([[jv (2*((st1.reverse.getD (st1.length- 1) ([],0)).2:Int))]]),own s7 9 1 (((st1.reverse.map λx:By × Nat=>[sv x.1]).take (st1.length- 2))++([[sv (nodeH sha ((st1.reverse.getD (st1.length- 2) ([],0)).1) ((st1.reverse.getD (st1.length- 1) ([],0)).1))]])),own (cut u1 1 0 (st1.length- 2) (slCap u1)) 3 1 ((st1.reverse.map λx:By × Nat=>[jv (x.2:Int)]).take (st1.length- 2)),blk 0 (kOf.map wv) 258] w14:=U.take (i:=2) (k:=(st1.length- 2)) rfl (by simp<;>omega);refine bc (i:=2) (sT:=24) (inf:=Tryz.t3) (z:=jv 0) (b:=0) (off:=0) (m:=0) (c:=0) O O O (U.ow 0 O) sm underlying24 O O O O de CK CN CN de Y U λa w15 s9 Y U _=>wla Y O λa Y=>ab<|aO<|G14 ?_;replace U:=U.k3 14 O;refine al<|nv (Y.p7 2 11 12 13 7 3 4 O)<|AL O<|AK (bF O O ⟨om,om⟩)<|AM O<|λa Y=>ab ?_;rw[show ((st1.reverse.map λx:By × Nat=>[sv x.1]).take (st1.length- 2))++([[sv (nodeH sha ((st1.reverse.getD (st1.length- 2) ([],0)).1) ((st1.reverse.getD (st1.length- 1) ([],0)).1))]])=(((nodeH sha r1 r2,2*s1)::t).reverse.map λx:By × Nat=>[sv x.1]) from by rw[←List.map_take,e3,e1,e2]; simp] at U;rw[show ((st1.reverse.map λx:By × Nat=>[jv (x.2:Int)]).take (st1.length- 2))++([[jv (2*((st1.reverse.getD (st1.length- 1) ([],0)).2:Int))]])=(((nodeH sha r1 r2,2*s1)::t).reverse.map λx:By × Nat=>[jv (x.2:Int)]) from by rw[←List.map_take,e3,e2]; simp] at U;rw[show (st1.length:Int)- 1=(((nodeH sha r1 r2,2*s1)::t).length:Int) from by rw[hst0]; simp only[A3]; omega] at Y;have hm1:((nodeH sha r1 r2,2*s1)::t).length=t.length+1:=rfl;have hm2:st1.length=t.length+2:=by rw[hst0]; rfl
    rw[hst0] at hS1 hW1;obtain⟨hS2,hW2⟩:=Stk.merge sha hS1 hW1;refine⟨_,?_,((nodeH sha r1 r2,2*s1)::t),s7,s9,O,hS2,hW2,Y.pick [2,11,12,13,7,3,4],U.select [0,1,2] de⟩;omega
   have hI1:incr st1:=vW hW1 om hc5;refine aN<|G8<|al<|nv Y<|AK (aK O O ⟨om,om⟩)<|AL O<|λa Y=>ab ?_;refine⟨_,?_,k+1,st1,v1,u1,O,om,hS1,hI1,Y.pick [2,11,12,13,3,4],U.select [0,1,2] de⟩;omega
  rw[AV hb4] at Y;have hI1:incr st1:=hW1.strict λx y t e=>absurd hb4 (by rw[e]; simp; omega);refine bR (k:=3) 13 [7,12] (Y.p10 2 11 12 13 7 3 4 27 28 29 O) λa Y=>?_;replace Y:Fr 96 [(30,undef),(31,undef),(32,undef),(33,undef),(34,undef),(35,undef),(36,undef),(37,undef),(38,undef),(39,undef),(2,.string (⟨#[]⟩)),(11,lv),(12,jv (ls.length:Int)),(13,jv (k:Int)),(7,jv (st1.length:Int)),(3,v1),(4,u1),(27,jv (st1.length:Int)),(28,.bool false),(29,.bool false)] [] a:=Y;refine aI (k:=13) 15 [14] ?_;refine nv Y<|AO<|AK (ak O O)<|λa Y=>ab<|aO<|G13 ?_;replace Y:=Y.p8 2 11 12 13 7 3 4 41 O;refine aJ Y O ?_;refine aN<|G8<|al<|nv Y<|AK (aK O O ⟨om,om⟩)<|AL O<|λa Y=>ab ?_;refine⟨_,?_,k+1,st1,v1,u1,O,om,hS1,hI1,Y.pick [2,11,12,13,3,4],U.select [0,1,2] de⟩;omega
 obtain rfl:k=ls.length:=by omega
 rw[List.take_length] at hS;have hle:=hS.le;refine aN<|G4<|ah λG16=>aa λG17=>nv Y<|AL O<|AK ((aH (sT:=44) (U.ow 0 O) O O (runUnderlying44 _)).asi (m':=(st.length:Int)) sm)<|AK (v_eq O O)<|λa Y=>G17 ?_;replace Y:=Y.p3 2 3 76 O;refine ay Y O (λhc10=>?_) (λhc10=>?_)
 ·refine aa λG18=>au Y U call168 O (yb [] _ (U.g 2 O) sm) λa w16 Y U=>wla Y O λa Y=>G18<|ao<|am Y results123 (ae O ag) ?_;obtain rfl:st=[]:=Bq om;obtain rfl:ls=[]:=hS;exact⟨O,U.ext.const hk0 (U.g 2 O)⟩
 have hlast:=hle.2 (st.reverse.getD (st.length- 1) ([],0)) (List.mem_reverse.1 (bf (by rw[Bd]; omega)));refine ap<|G16<|aa λG19=>nv Y<|AL O<|AL O<|AK ((aH (sT:=44) (U.ow 0 O) O O (runUnderlying44 _)).asi (m':=(st.length:Int)) sm)<|AK (bF O O ⟨om,om⟩)<|AK ((ai (i:=(st.length:Int)- 1) (sT:=44) (U.ow 0 O) O O (runUnderlying44 _) (sizeOf9 _) om CV).as (v':=slAddr v ((st.length- 1)*1)) (by rw[show ((st.length:Int)- 1).toNat=(st.length- 1) from by omega]))<|AK (az (u:=sv ((st.reverse.getD (st.length- 1) ([],0)).1)) (i:=(st.length- 1)) (j:=0) (U.ow 0 O) CV O (isAgg9 _) DZ)<|λa Y=>aE Y U (zeroValue9 _) [.string (⟨#[]⟩)] O λa w17 Y U=>aA 0 Y U [sv ((st.reverse.getD (st.length- 1) ([],0)).1)] O (sizeOf9 _) λa w18 Y U=>G19 ?_;refine ah λG20=>aa λG21=>nv (Y.p3 2 3 8 O)<|AL O<|AL O<|AK ((aH (sT:=44) (U.ow 1 O) O O (runUnderlying44 _)).asi (m':=(st.length:Int)) sm)<|AK (bF O O ⟨om,om⟩)<|AK (bT (l:=0) (h:=(st.length- 1)) (U.ow 1 O) O O O underlying44 kr (.inl ⟨O,O⟩) (.inr (by rw[show ((st.length:Int)- 1:Int)=(((st.length- 1):Nat):Int) from by omega]<;>rfl)) (A8 _) CS)<|λa Y=>bp Y U call169 O (zx (cut v 1 0 (st.length- 1) (slCap v)) _ _ ((U.ow 1 O).cut0 (h:=(st.length- 1)) CP)) λa w19 x11 hp Y U=>?_;revert x11 hp Y U; rintro z1 hp Y U;clear hp;replace U:=U.n5 O;refine G21 ?_;replace Y:=Y.p3 2 8 89 O;refine aw ?_
 replace U:St (·=0) w0 [blk z1 [(cut v 1 0 (st.length- 1) (slCap v))] 44,blk w1.hz [sv ((st.reverse.getD (st.length- 1) ([],0)).1)] 9,own (cut v 1 0 (st.length- 1) (slCap v)) 9 1 (((st.drop 1).reverse.map Prod.fst).map λs=>[sv s]),own u 3 1 (st.reverse.map λx:By × Nat=>[jv (x.2:Int)]),blk 0 (kOf.map wv) 258] w19:=by
  have h9:=U.take (i:=2) (k:=st.length- 1) rfl sm;rw[rQ] at h9;exact h9
 have hyl:((st.drop 1).reverse.map Prod.fst).length≤1000:=by simp; omega
 have hy32:∀k,k<((st.drop 1).reverse.map Prod.fst).length→(((st.drop 1).reverse.map Prod.fst).getD k []).length=32:=λk hk=>by
  obtain⟨z,hz,e⟩:=BA.1 (bf (d:=[]) hk);rw[←e]; exact (hle.2 z (List.mem_of_mem_drop (List.mem_reverse.1 hz))).1
 replace U:=U.n5 O;replace U:=U.s4 [4,1,0,2] de rfl;replace Y:=Y.p3 2 8 89 O;refine dR (M:=(·=0)) (w0:=w0) (encs:=(encB ((st.drop 1).reverse.map Prod.fst))) (Hi:=[blk z1 [(cut v 1 0 (st.length- 1) (slCap v))] 44,own (cut v 1 0 (st.length- 1) (slCap v)) 9 1 (((st.drop 1).reverse.map Prod.fst).map λs=>[sv s])]) (Hc:=[blk 0 (kOf.map wv) 258,blk w1.hz [sv (([]:List Nat).foldl (λo k=>nodeH sha (((st.drop 1).reverse.map Prod.fst).getD k []) o) ((st.reverse.getD (st.length- 1) ([],0)).1))] 9]) (λpre H=>((pre.foldl (λo k=>nodeH sha (((st.drop 1).reverse.map Prod.fst).getD k []) o) ((st.reverse.getD (st.length- 1) ([],0)).1)).length=32)∧H=[blk 0 (kOf.map wv) 258,blk w1.hz [sv (pre.foldl (λo k=>nodeH sha (((st.drop 1).reverse.map Prod.fst).getD k []) o) ((st.reverse.getD (st.length- 1) ([],0)).1))] 9]) (λ_ _ _=>False) (λpre xs H a=>Fr 96 [(2,.string (⟨#[]⟩)),(8,pq w1.hz),(89,.func (.func 194) #[] #[pq z1]),(10,sv (((st.drop 1).reverse.map Prod.fst).getD xs []))] [] a∧((pre.foldl (λo k=>nodeH sha (((st.drop 1).reverse.map Prod.fst).getD k []) o) ((st.reverse.getD (st.length- 1) ([],0)).1)).length=32)∧H=[blk 0 (kOf.map wv) 258,blk w1.hz [sv (pre.foldl (λo k=>nodeH sha (((st.drop 1).reverse.map Prod.fst).getD k []) o) ((st.reverse.getD (st.length- 1) ([],0)).1))] 9]) O call194 Y U (u0 (cut v 1 0 (st.length- 1) (slCap v)) ((st.drop 1).reverse.map Prod.fst) z1 om) de (λ_=>O) ⟨hlast.1,O⟩ ?_ ?_ ?_ ?_
 ·clear Y U;rintro lp pre xs _ a w20 hnx ⟨hf32,rfl⟩ Y U;generalize (join [blk 0 (kOf.map wv) 258,blk w1.hz [sv (pre.foldl (λo k=>nodeH sha (((st.drop 1).reverse.map Prod.fst).getD k []) o) ((st.reverse.getD (st.length- 1) ([],0)).1))] 9]).foot=M1 at U⊢;refine al<|wla (Y.p5 91 90 2 8 89 O) O λa Y=>ab ?_;exact⟨_,⟨Y.pick [2,8,89,10],hf32,O⟩,U⟩
 ·rintro lp pre xs _ a w21 hnx ⟨Y,hf32,rfl⟩ hout hrec hnl U;clear hrec hnl;generalize (join [blk 0 (kOf.map wv) 258,blk w1.hz [sv (pre.foldl (λo k=>nodeH sha (((st.drop 1).reverse.map Prod.fst).getD k []) o) ((st.reverse.getD (st.length- 1) ([],0)).1))] 9]).foot=M1 at U hout⊢;refine aw<|al<|nv Y<|AL O<|AK (ld U 1 O O (isAgg9 _) O)<|λa Y=>au Y U call138 O (iu (((st.drop 1).reverse.map Prod.fst).getD xs []) (pre.foldl (λo k=>nodeH sha (((st.drop 1).reverse.map Prod.fst).getD k []) o) ((st.reverse.getD (st.length- 1) ([],0)).1)) _ Eh D5 (U.g 0 O)) λa w22 Y U=>aA 1 Y U [sv (nodeH sha (((st.drop 1).reverse.map Prod.fst).getD xs []) (pre.foldl (λo k=>nodeH sha (((st.drop 1).reverse.map Prod.fst).getD k []) o) ((st.reverse.getD (st.length- 1) ([],0)).1)))] O (sizeOf9 _) λa w23 Y U=>ab ?_;rw[show nodeH sha (((st.drop 1).reverse.map Prod.fst).getD xs []) (pre.foldl (λo k=>nodeH sha (((st.drop 1).reverse.map Prod.fst).getD k []) o) ((st.reverse.getD (st.length- 1) ([],0)).1))=(pre++[xs]).foldl (λo k=>nodeH sha (((st.drop 1).reverse.map Prod.fst).getD k []) o) ((st.reverse.getD (st.length- 1) ([],0)).1) from by rw[List.foldl_append]; rfl] at U;exact⟨_,⟨(by rw[List.foldl_append]; exact qH cV _ _),O⟩,U.select [0,1] de⟩
 ·rintro D pre _ _ a w24 ⟨rfl,rfl⟩ ⟨hf32,rfl⟩ U Y;replace Y:=Y.p3 2 8 89 O;replace U:=U.n5 O;refine G20<|aa λG22=>nv Y<|AK (ld U 2 O O (isAgg9 _) O)<|AM O<|λa Y=>G22<|ao ?_;have hD:=U.g 0 rfl;replace U:=U.unmark (i:=0) (o':=.deferred none) O;replace U:=U.n4 O;refine cF Y hD results123 (ae O ag) ?_;exact⟨by simp only[retv]; rw[xX hS hI om],U.ext.const hk0 (U.g 0 O)⟩
 ·rintro D c pre _ _ a w25 _ h;exact h.elim
end Go.Proofs.YtliklcmddmpdfaaGreatDoor
namespace Go.Proofs.YtliklcmddmpdfaaGreatDoor
open Go.RowKit Go.PW Go.Sort
theorem py (xs:List (List UInt8)):(xs.map λs=>[sv s]).flatten=xs.map sv:=by
 induction xs with
 | nil=>rfl
 | cons x xs ih=>rw[BL,List.flatten_cons,ih]; rfl
theorem nD (s:List UInt8):encStr s=sv s:=rfl
theorem wF (cur:Array Value) (n:Nat) (ys:List (List UInt8)) (hn:n≤cur.size) (hy:ys.length=n):(putCells encStr 0 ys.toArray cur).toList.take n=ys.map sv:=by
 subst hy;refine List.ext_getElem? λi=>?_
 by_cases hi:i<ys.length
 ·have hc:i<cur.size:=by omega
  rw[List.getElem?_take_of_lt hi,BT,A2 hi];simp[putCells,hc,hi,nD]
 ·rw[Ck De,Ck CH]
theorem su (v:Value) (xs:List (List UInt8)) (E:TypeId) (w:World) (h:(own v E 1 (xs.map λs=>[sv s])).ok w):
  Ret Tryz.prog 127 #[v] w λu w'=>u=.tuple #[]∧Ext (own v E 1 (xs.map λs=>[sv s])).foot w w'∧(own v E 1 (xs.reverse.map λs=>[sv s])).ok w':=by
 obtain⟨h1,h2,h3,h4⟩:=h;rcases h4 with⟨rfl,h0⟩|⟨g,cap,cur,fz,rfl,hg,hfz,hnc,hcm,hcs,htk⟩
 ·obtain rfl:xs=[]:=by simpa using h0
  refine (Tryz.slices_Reverse_string_empty none 0 w).mono λe w' ⟨he,hw⟩=>⟨_,he,O,by rw[hw]; exact Ext.refl _ _,?_⟩;rw[hw]; exact ue w E 1
 ·rw[AP] at*;rw[py] at htk;have hsz:xs.length≤cur.size:=by omega
  have hcell:∀j,j<xs.length→cur[j]?=some (sv (xs.getD j [])):=by
   intro j hj;have:(cur.toList.take (xs.length*1))[j]?=(xs.map sv)[j]?:=by rw[htk]
   rw[List.getElem?_take_of_lt om,BT,A2 hj] at this;simpa [AY,hj] using this
  have hH:Holds encStr w g 0 xs.toArray:=by
   intro j hj;have hj':j<xs.length:=by simpa using hj
   refine⟨?_,?_⟩
   ·rw[Nat.zero_add];simp only[World.cell?,hg];have:=hcell j hj';simp[hj',nD,AY] at this⊢;exact this
   ·obtain⟨lo,hi'⟩:=fz;simp only[World.frozen?,hg,A7,Bn];unfold rowFz at hfz;simp only at hfz;omega
  refine (Tryz.slices_Reverse_string g 0 cap xs w hH (by simp only[big] at h2; omega)).mono λe w' ⟨he,n,hw⟩=>⟨_,he,O,?_,?_⟩
  ·rw[hw];refine⟨O,O,O,by simp,λk hk hn=>?_⟩;have hne:g≠k:=λe=>hn (by show Value.ownBlock _=some k; rw[←e]; rfl);simp[putRow,mapBlock,Array.getElem?_modify,hne]
  ·rw[hw];refine⟨λe he=>by obtain⟨s,_,rfl⟩:=BA.1 he; rfl,by simpa using h2,by rw[py]; simp,.inr ⟨g,cap,putCells encStr 0 xs.reverse.toArray cur,fz,by simp,?_,hfz,by simpa using hnc,hcm,by simpa [putCells] using hcs,?_⟩⟩
   ·simp[putRow,mapBlock,Array.getElem?_modify,hg,onCells]
   ·rw[py,AP,Bd,Nat.mul_one];exact wF cur xs.length xs.reverse hsz sm
end Go.Proofs.YtliklcmddmpdfaaGreatDoor
namespace Go.PW
open Go.RowKit
section
variable {P:Program} {r:Option Nat} {ops:Array Oper} {K:Act→World→Prop} {rest:List Oper} {a:Act} {w w0:World} {M:Nat→Prop} {H:List Ent}
variable {N:Nat} {L:List (Nat × Value)} {df:List Deferred} {d:Nat} {ty:TypeId} {pos:String} {af:Array Edge} {v:Value}
theorem xd {f:FuncId} {xs:List Operand} {vs:List Value} {ats:Array TypeId} {e e':Ent} {H':List Ent} (i:Nat) (Y:Fr N L df a) (U:St M w0 H w) (hd:d<N) (hen:∀args w,(callFunc f args).run P w=.ok (.enter f args) w) (hx:evs L xs=some vs)
  (hi:H[i]?=some e) (hf:∀b,e'.foot b→e.foot b) (hc:Ret P f vs.toArray w λv' w'=>v'=v∧Ext e.foot w w'∧e'.ok w') (hH:H.set i e'=H')
  (k:∀a w',Fr N ((d,v)::L) df a→St M w0 H' w'→WL P r ops K rest a w'):
  WL P r ops K (⟨some d,.call {callee:=.value (.func f),args:=xs.toArray,argTypes:=ats},ty,pos,af,none⟩::rest) a w:=
 wl_r (ff hen hx hc) rfl (AQ hd) Y λa v' w' ⟨hv,hw,ho⟩ h=>by
  subst hv; subst hH;exact k _ _ h (U.exchange hi hw ho λb' hb'=>⟨BR (U.lt hi (hf _ hb')) hw.size,.inl (hf _ hb')⟩)
end
end Go.PW
namespace Go.Proofs.YtliklcmddmpdfaaGreatDoor
open Go.RowKit Go.PW _root_.Go.Proofs.Tryz
theorem wN (lv:Value) (ls:List By) (i:Nat) (w0:World) (hlv:SlAt w0 lv 1 (ls.map λs=>[sv s])) (hi:i<ls.length) (hln:ls.length≤1000) (hls:∀s∈ls,s.length≤40000000) (hk0:(blk 0 (kOf.map wv) 258).ok w0):
  Ret Tryz.prog 75 #[lv,jv (i:Int)] w0 (MemR w0 (λv:Value=>.tuple #[v,jv 0]) (λv=>[own v 9 1 ((proofH sha ls i).map λs=>[sv s])]) (λ_=>True)):=by
 refine Cx func75 O ntmps75 (lb O) λa Y U=>aa λG1=>nv Y<|AM O<|AM O<|λa Y=>G1<|xy<|ah λG2=>aa λG3=>nv Y<|AL O<|AK (v_lt O O)<|AL O<|λa Y=>?_;rcases Decidable.em ((i:Int)<0) with hb1|hb1
 ·rw[AQ hb1] at Y;omega
 rw[AV hb1] at Y;refine nv Y<|AN (ax O)<|AN (ax O)<|AN ((aH (sT:=44) (U.arg hlv) O O (runUnderlying44 _)).asi (m':=(ls.length:Int)) sm)<|AN (v_ge O O)<|AK (ak O O)<|λa Y=>G3 ?_;replace Y:=Y.p5 0 1 4 5 17 O;refine ay Y O (λhc2=>?_) (λhc2=>?_)
 ·omega
 refine ap<|G2<|aa λG4=>wla Y O λa Y=>G4<|ah λG5=>xr<|G5<|ah λG6=>aw ?_;replace U:St No w0 [own (.slice none 0 0) 9 1 (([]:List By).map λs=>[sv s])] w0:=U.nil_own;refine aV (λm a w=>∃(v:Value) (cl:List By) (ci:Nat) (ou:List By) (o:Value),m=cl.length∧(SlAt w0 v 1 (cl.map λs=>[sv s]))∧(ci<cl.length)∧(cl.length≤1000)∧(cl.length+ou.length≤2000)∧(∀s∈cl,s.length≤40000000)∧(proofH sha ls i=proofH sha cl ci++ou.reverse)∧Fr 47 [(4,.slice none 0 0),(5,jv 0),(0,v),(1,jv (ci:Int)),(6,o)] [] a∧St No w0 [own o 9 1 (ou.map λs=>[sv s])] w) _ ⟨lv,ls,i,[],.slice none 0 0,O,hlv,hi,hln,Df,hls,sm,Y.pick [4,5,0,1,6],U.select [0] de⟩ ?_;rintro _ a w1 ⟨v,cl,ci,ou,o,rfl,hv,hc1,hc2,hc3,hcl,hpr,Y,U⟩;refine aw<|ah λG7=>aa λG8=>nv Y<|AL O<|AK ((aH (sT:=44) (U.arg hv) O O (runUnderlying44 _)).asi (m':=(cl.length:Int)) sm)<|AK (v_eq O O)<|λa Y=>G8<|ay Y O (λhc3=>?_) (λhc3=>?_)
 ·refine aN<|G6<|aa λG9=>wlm Y O λa Y=>xd (e':=own o 9 1 (ou.reverse.map λs=>[sv s])) 0 Y U de call127 O O (λ_ h=>h) (su _ _ _ _ (U.g 0 O)) O λa w2 Y U=>G9 ?_;refine aa λG10=>nv (Y.p3 4 5 6 O)<|AL O<|AM O<|AM O<|λa Y=>G10<|ao<|am Y results75 (ae O (ae O ag)) ?_;rw[fe sha (l:=cl) om,Bw] at hpr;refine⟨o,O,trivial,U.ext,St.out (E:=[own o 9 1 ((proofH sha ls i).map λs=>[sv s])]) (H:=[]) ?_⟩;rw[hpr]; exact U
 have hlt:=eU (n:=cl.length) om;have hlp:=dW cl.length;refine ap<|G7<|aa λG11=>nv Y<|AL O<|AK ((aH (sT:=44) (U.arg hv) O O (runUnderlying44 _)).asi (m':=(cl.length:Int)) sm)<|λa Y=>au Y U call126 O (un cl.length _ om om) λa w3 Y U=>wla Y O λa Y=>G11 ?_;replace Y:=Y.p6 4 5 0 1 6 7 O;refine ah λG12=>aL (aM λw4 hxz=>?_);replace U:=U.grow hxz;refine aP (k:=0) 7 [5,6] Y ?_;refine bB 7 (Y.p6 4 5 0 1 6 7 O) U<|pl_m O<|pl_m O<|pl_w (λU=>bT (l:=0) (h:=(lft cl.length)) (U.arg hv) O O O underlying44 kr (.inl ⟨O,O⟩) (.inr D7) (A8 _) CS)<|pl_m O<|pl_m O<|pl_w (λU=>bT (l:=(lft cl.length)) (h:=cl.length) (U.arg hv) O O O underlying44 kr (.inr D7) (.inl ⟨O,by simp⟩) om sm)<|pl_v (cH O) λa w5 Y U=>?_;replace Y:=Y.p7 4 5 1 6 7 29 8 O;refine ab<|aI (k:=7) 8 [7] ?_;refine wla Y O λa Y=>ab<|aO<|G12<|ah λG13=>aa λG14=>nv Y<|AL O<|AL O<|AK (v_ge O O)<|λa Y=>G14<|ay Y O (λhc4=>?_) (λhc4=>?_)
 ·refine al<|nv Y<|AL O<|AL O<|AL O<|AL O<|AK ((bF O O ⟨om,om⟩).asi (m':=((ci- lft cl.length:Nat):Int)) om)<|AM O<|AM O<|AM O<|λa Y=>ab<|G13<|aa λG15=>nv (Y.p6 4 5 6 8 9 1 O)<|AL O<|AL O<|λa Y=>au Y U call123 O (pr (cut v 1 0 (lft cl.length) (slCap v)) (cl.take (lft cl.length)) _ ((U.arg hv).cut0 (h:=(lft cl.length)) CP) (by first|omega|(simp only[AX,Bb]; omega)) DT (U.keepb hk0)) λa w6 Y U=>aG (E:=9) (sz:=1) O [[sv (rootH sha (cl.take (lft cl.length)))]] kr sm O de de Y U λa w7 Y U=>bc (i:=1) (sT:=44) (inf:=Tryz.t9) (z:=.string (⟨#[]⟩)) (b:=0) (off:=0) (m:=0) (c:=0) O O O (U.ow 0 O) sm underlying44 O O O O de CK CY CY de Y U λa w8 s5 Y U _=>wla Y O λa Y=>G15 ?_;replace U:=U.k1 2 O;refine al<|nv (Y.p5 4 5 8 1 6 O)<|AL O<|AM O<|λa Y=>ab ?_;rw[show (ou.map λs=>[sv s])++([[sv (rootH sha (cl.take (lft cl.length)))]])=((ou++[rootH sha (cl.take (lft cl.length))]).map λs=>[sv s]) from by simp] at U;have hm1:(cl.drop (lft cl.length)).length<cl.length:=by simp only[AX,Bb]; omega
  refine⟨_,?_,(cut v 1 (lft cl.length) cl.length (slCap v)),(cl.drop (lft cl.length)),(ci- lft cl.length),(ou++[rootH sha (cl.take (lft cl.length))]),s5,O,hv.cutd (l:=lft cl.length) om,C5,C5,(by simp only[AW,AX,Bb,A3,A5]; omega),(λs h=>hcl s (List.mem_of_mem_drop h)),(by rw[hpr,dX sha om,Bc om]; simp),Y.pick [4,5,0,1,6],U.select [0] de⟩;omega
 refine ap<|G13<|aa λG16=>nv Y<|AL O<|AL O<|λa Y=>au Y U call123 O (pr (cut v 1 (lft cl.length) cl.length (slCap v)) (cl.drop (lft cl.length)) _ ((U.arg hv).cutd (l:=(lft cl.length)) CP) (by first|omega|(simp only[AX,Bb]; omega)) DT (U.keepb hk0)) λa w9 Y U=>aG (E:=9) (sz:=1) O [[sv (rootH sha (cl.drop (lft cl.length)))]] kr sm O de de Y U λa w10 Y U=>bc (i:=1) (sT:=44) (inf:=Tryz.t9) (z:=.string (⟨#[]⟩)) (b:=0) (off:=0) (m:=0) (c:=0) O O O (U.ow 0 O) sm underlying44 O O O O de CK CY CY de Y U λa w11 s6 Y U _=>wla Y O λa Y=>G16 ?_;replace U:=U.k1 2 O;refine al<|nv (Y.p5 4 5 1 8 6 O)<|AL O<|AM O<|λa Y=>ab ?_;rw[show (ou.map λs=>[sv s])++([[sv (rootH sha (cl.drop (lft cl.length)))]])=((ou++[rootH sha (cl.drop (lft cl.length))]).map λs=>[sv s]) from by simp] at U;have hm1:(cl.take (lft cl.length)).length<cl.length:=by simp only[AX,Bb]; omega
 refine⟨_,?_,(cut v 1 0 (lft cl.length) (slCap v)),(cl.take (lft cl.length)),ci,(ou++[rootH sha (cl.drop (lft cl.length))]),s6,O,hv.cut0 (h:=lft cl.length) om,C5,C5,(by simp only[AW,AX,Bb,A3,A5]; omega),(λs h=>hcl s (BB h)),(by rw[hpr,dX sha om,Bi om]; simp),Y.pick [4,5,0,1,6],U.select [0] de⟩;omega
def encD (xs:List (By × Bool)) (k:Nat):List Value:=[jv (k:Int),.agg #[sv (xs.getD k ([],false)).1,.bool (xs.getD k ([],false)).2]]
theorem uK {M:Nat→Prop} {w0:World} (v:Value) (xs:List (By × Bool)) (lp b1:Nat) (J Jx:List Nat→Ent→Prop) (hY:Rounds Tryz.prog M w0 lp (encD xs) (NxB xs.length) J Jx) (e0:Ent) (ws:World) (hn:xs.length≤1000000) (hJ:J [] e0) (U:St M w0 [e0,blk b1 [v] 216,own v 220 2 (xs.map λx:By × Bool=>[sv x.1,.bool x.2])] ws):
  Ret Tryz.prog 189 #[.func (.yield lp) #[] #[],pq b1] ws λ_ w=>∃e1 Hi1,St M w0 (e1::Hi1) w∧((∃ys,(ys=backs xs.length xs.length∧Hi1=[blk b1 [v] 216,own v 220 2 (xs.map λx:By × Bool=>[sv x.1,.bool x.2])])∧J ys e1)∨(∃pre,Hi1=[blk b1 [v] 216,own v 220 2 (xs.map λx:By × Bool=>[sv x.1,.bool x.2])]∧Jx pre e1)):=by
 refine aD func189 O ntmps189 (lb O) λa Y=>?_;replace Y:=Y.p2 0 1 O;skip;refine aa λG1=>nv Y<|AK (ld U 1 O O (isAgg216 _) O)<|AK ((aH (sT:=216) (U.ow 2 O) O O (runUnderlying216 _)).asi (m':=(xs.length:Int)) sm)<|AK (bF O O ⟨om,om⟩)<|AM O<|λa Y=>G1<|aw ?_;rw[show (xs.length:Int)- 1=(xs.length:Int)- 1- ((0:Nat):Int) from by omega] at Y;refine aV (λm a w=>∃(j:Nat) (e:Ent),m=xs.length- j∧(j≤xs.length)∧(J (backs xs.length j) e)∧Fr 19 [(0,.func (.yield lp) #[] #[]),(1,pq b1),(3,jv ((xs.length:Int)- 1- (j:Int)))] [] a∧St M w0 [e,blk b1 [v] 216,own v 220 2 (xs.map λx:By × Bool=>[sv x.1,.bool x.2])] w) _ ⟨0,e0,O,A8 _,hJ,Y.pick [0,1,3],U⟩ ?_;rintro _ a w1 ⟨j,e,rfl,hj,hJ,Y,U⟩;refine ah λG2=>aa λG3=>nv Y<|AL O<|AK (v_ge O O)<|λa Y=>G3<|ay Y O (λhc1=>?_) (λhc1=>?_)
 ·have hjl:j<xs.length:=by omega
  refine ap<|G2<|ah λG4=>aw ?_;have hidx:(xs.length:Int)- 1- (j:Int)=((xs.length- 1- j:Nat):Int):=by omega
  refine aa λG5=>nv Y<|AL O<|AL O<|AK (ld U 1 O O (isAgg216 _) O)<|AL O<|AK ((ai (i:=(xs.length:Int)- 1- (j:Int)) (sT:=216) (U.ow 2 O) O O (runUnderlying216 _) (sizeOf220 _) om Df).as (v':=slAddr v ((xs.length- 1- j)*2)) Ec)<|AK ((bI (U.ow 2 O) (i:=(xs.length- 1- j)) Df O (isAgg220 _) (sizeOf220 _)).as (v':=.agg #[sv ((xs.getD (xs.length- 1- j) ([],false)).1),.bool ((xs.getD (xs.length- 1- j) ([],false)).2)]) (by rw[aU ([],false)]))<|λa Y=>?_;rw[hidx] at Y;refine wl_r (f9 O O (hY.yield (pre:=backs xs.length j) (x:=xs.length- 1- j) Ef hJ (U.only (i:=0) O))) O O Y λa v w2 hR Y=>?_;obtain⟨y2,e3,rfl,hx,hok,hft,hJt,hJf⟩:=hR;replace U:=U.exchange (k:=0) rfl hx hok hft;replace U:=U.n3 O;clear hx hok hft;refine wlv Y (bd O) λa Y=>G5 ?_;replace Y:=Y.p4 0 1 3 18 O;refine bn Y O (λhc4=>?_) (λhc4=>?_)
  ·try simp only[qz] at hc4
   have hJ:=hJf hc4;refine ao<|am Y results189 ag ?_;exact⟨_,_,U,.inr ⟨_,O,hJ⟩⟩
  try simp only[qz] at hc4
  have hJ:=hJt hc4;refine ap<|G4<|al<|nv Y<|AL O<|AK (bF O O ⟨om,om⟩)<|AM O<|λa Y=>ab ?_;rw[show ((xs.length- 1- j:Nat):Int)- 1=(xs.length:Int)- 1- ((j+1:Nat):Int) from by omega] at Y;refine⟨_,?_,j+1,e3,O,om,hJ,Y.pick [0,1,3],U⟩;omega
 obtain rfl:j=xs.length:=by omega
 refine aN<|cY Y results189 ag ?_;exact⟨_,_,U,.inl ⟨_,⟨O,O⟩,hJ⟩⟩
theorem sb {M:Nat→Prop} {w0:World} (v:Value) (xs:List (By × Bool)) (b1:Nat) (hn:xs.length≤1000000):
  Iter Tryz.prog 189 [pq b1] (encD xs) (NxB xs.length) (λys Hi=>ys=backs xs.length xs.length∧Hi=[blk b1 [v] 216,own v 220 2 (xs.map λx:By × Bool=>[sv x.1,.bool x.2])]) (λpre Hi=>Hi=[blk b1 [v] 216,own v 220 2 (xs.map λx:By × Bool=>[sv x.1,.bool x.2])]) M w0 [blk b1 [v] 216,own v 220 2 (xs.map λx:By × Bool=>[sv x.1,.bool x.2])]:=
 λlp J Jx w e hY hJ U=>uK v xs lp b1 J Jx hY e w hn hJ U
theorem wa (v:Value) (els:List (List Value)) (w0:World) (hv:SlAt w0 v 2 els):
  Ret Tryz.prog 160 #[v] w0 (MemR w0 (λz:Nat=>.func (.func 189) #[] #[pq z]) (λz=>[blk z [v] 216]) (λ_=>True)):=by
 refine Cy func160 O ntmps160 (lb O) λa Y U=>aa λG1=>aR Y U O [v] (by rw[(U.arg hv).cells]) λa w1 Y U=>wla Y O λa Y=>G1<|aa λG2=>nv Y<|AK (ct O O)<|AM O<|λa Y=>G2<|ao<|am Y results160 (ae O ag) ?_;exact⟨w0.hz,O,trivial,U.ext,St.out (H:=[]) U⟩
end Go.Proofs.YtliklcmddmpdfaaGreatDoor
