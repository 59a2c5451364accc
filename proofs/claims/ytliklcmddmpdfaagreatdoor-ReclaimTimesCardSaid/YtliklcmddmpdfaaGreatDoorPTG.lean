/- Texts joined: WshV, RefV, RefJ, RefK, RclA, RclB, RegA, RegB. -/
import Derived.Test.YtliklcmddmpdfaaGreatDoorPTF
import Derived.Test.YtliklcmddmpdfaaGreatDoorPTC
import Derived.Test.YtliklcmddmpdfaaGreatDoorPTB
import Derived.Test.YtliklcmddmpdfaaGreatDoorPTE
import Derived.Test.YtliklcmddmpdfaaGreatDoorPTD
import Derived.Test.YtliklcmddmpdfaaGreatDoorPTA
set_option linter.unusedVariables false
set_option linter.unusedSimpArgs false
set_option maxRecDepth 4000
set_option maxHeartbeats 4000000
namespace Go.Proofs.YtliklcmddmpdfaaGreatDoor
open Go.RowKit Go.PW _root_.Go.Proofs.Tryz
section
variable {ks:List By} {x:Wsh} {ps:List Pxy} {n t:Int}
theorem nH:validH ks x ps n t=true↔(¬formB ks x ps∧badIdx ps 0=none∧inB t x.sf (x.st- 1)=true∧inB n x.rf (x.rt- 1)=true∧cA x.signer x.holder ps 0=none∧bH x none ps 0=none∧bV ks x ps 0=none):=by
 unfold validH
 rw[zZ]
 constructor
 ·intro h
  by_cases h0:formB ks x ps
  ·rw[gx h0] at h; cases h
  ·cases hb:badIdx ps 0 with
   | some i=>rw[tb h0 (by rw[kC,hb]; exact Int.natCast_nonneg i)] at h; cases h
   | none=>
    cases ht:inB t x.sf (x.st- 1) with
    | false=>rw[kS h0 hb ht] at h; cases h
    | true=>
     cases hn:inB n x.rf (x.rt- 1) with
     | false=>rw[oA h0 hb ht hn] at h; cases h
     | true=>
      have hp:whyP ks x ps n t:=⟨h0,hb,ht,hn⟩
      cases hc:cA x.signer x.holder ps 0 with
      | some i=>rw[nE hp hc] at h; cases h
      | none=>
       cases hs:bH x none ps 0 with
       | some i=>rw[nF hp hc hs] at h; cases h
       | none=>
        cases hl:bV ks x ps 0 with
        | some i=>rw[gr hp hc hs hl] at h; cases h
        | none=>exact⟨h0,rfl,rfl,rfl,rfl,rfl,rfl⟩
 ·rintro⟨h0,hb,ht,hn,hc,hs,hl⟩
  rw[kO ⟨h0,hb,ht,hn⟩ hc hs hl]
theorem oI {n0 t0:Int} (h:validH ks x ps n0 t0=true) (n t:Int):whyH ks x ps n t=if inB t x.sf (x.st- 1)=false then (2, -1) else if inB n x.rf (x.rt- 1)=false then (3, -1) else (0, -1):=by
 obtain⟨h0,hb,_,_,hc,hs,hl⟩:=nH.1 h
 by_cases ht:inB t x.sf (x.st- 1)=false
 ·rw[Am ht,kS h0 hb ht]
 ·rw[Ai ht]
  by_cases hn:inB n x.rf (x.rt- 1)=false
  ·rw[Am hn,oA h0 hb (by simpa using ht) hn]
  ·rw[Ai hn,kO ⟨h0,hb,by simpa using ht,by simpa using hn⟩ hc hs hl]
theorem lL {n0 t0:Int} (h:validH ks x ps n0 t0=true) (n t:Int):validH ks x ps n t=(inB t x.sf (x.st- 1)&&inB n x.rf (x.rt- 1)):=by
 unfold validH
 rw[oI h]
 cases inB t x.sf (x.st- 1)<;>cases inB n x.rf (x.rt- 1)<;>rfl
theorem lU:∀{l:List Pxy} {k:Nat},bV ks x l k=none→(∀p∈l,∃key,keyAt ks p.frm=some key∧p.sig=sealH key p.content)∧∃key,keyAt ks x.signer=some key∧x.sig=sealH key x.content
 | [],k,h=>by
  rw[bV] at h
  split at h
  ·rename_i hc
   cases hq:keyAt ks x.signer with
   | none=>rw[hq] at hc; cases hc
   | some key=>rw[hq] at hc; exact⟨by simp,key,rfl,by simpa using hc⟩
  ·cases h
 | p::l,k,h=>by
  rw[bV] at h
  split at h
  ·rename_i hc
   obtain⟨h1,h2⟩:=lU h
   refine⟨λq hq=>?_,h2⟩
   rcases zY.1 hq with rfl|hq
   ·cases he:keyAt ks q.frm with
    | none=>rw[he] at hc; cases hc
    | some key=>rw[he] at hc; exact⟨key,rfl,by simpa using hc⟩
   ·exact h1 q hq
  ·cases h
theorem ny {h:Int} {key:By} (hk:keyAt keysH h=some key):0≤h∧h<10∧key=keyH h:=by
 unfold keyAt at hk
 split at hk
 ·cases hk
 ·rename_i h0
  have hl:=(Au.1 hk).1
  rw[mD] at hl
  have h1:h<10:=by omega
  have:=gF (h:=h) om h1
  unfold keyAt at this
  rw[Ai h0,hk] at this
  exact⟨by omega,h1,A4 this⟩
end
def Mk (x:Wsh) (ps:List Pxy):Prop:=validH keysH x ps x.rf x.sf=true
section
variable {x:Wsh} {ps:List Pxy}
theorem Mk.pieces (h:Mk x ps):¬formB keysH x ps∧badIdx ps 0=none∧cA x.signer x.holder ps 0=none∧bH x none ps 0=none∧bV keysH x ps 0=none:=by
 obtain⟨h0,hb,_,_,hc,hs,hl⟩:=nH.1 h
 exact⟨h0,hb,hc,hs,hl⟩
theorem Mk.ok (h:Mk x ps):x.ok=true:=by
 have:=h.pieces.1
 cases hx:x.ok with
 | true=>rfl
 | false=>exact absurd (.inr (.inr (.inl hx))) this
theorem Mk.len (h:Mk x ps):ps.length≤4:=Nat.le_of_not_lt λhl=>h.pieces.1 (.inr (.inr (.inr hl)))
theorem Mk.formed (h:Mk x ps):ce x ps=true:=by
 unfold ce
 rw[h.ok,h.pieces.2.1,zU h.len]; rfl
theorem Mk.sgn (h:Mk x ps):0≤x.signer∧x.signer<10∧x.sig=sealH (keyH x.signer) x.content:=by
 obtain⟨key,h1,h2⟩:=(lU h.pieces.2.2.2.2).2
 obtain⟨h3,h4,rfl⟩:=ny h1
 exact⟨h3,h4,h2⟩
theorem Mk.each (h:Mk x ps) {p:Pxy} (hp:p∈ps):0≤p.frm∧p.frm<10∧p.sig=sealH (keyH p.frm) p.content∧p.ok=true:=by
 obtain⟨key,h1,h2⟩:=(lU h.pieces.2.2.2.2).1 p hp
 obtain⟨h3,h4,rfl⟩:=ny h1
 exact⟨h3,h4,h2,dV h.pieces.2.1 p hp⟩
theorem Mk.same (h:Mk x ps):x.sealed (keyH x.signer)=x:=by
 have:=h.sgn.2.2
 unfold Wsh.sealed
 rw[←this]
theorem Mk.xsig (h:Mk x ps):x.sig.length=32:=by rw[h.sgn.2.2]; exact gW _ _
theorem Mk.psig (h:Mk x ps):∀p∈ps,p.sig.length=32:=λp hp=>by rw[(h.each hp).2.2.1]; exact gW _ _
theorem Mk.enc (h:Mk x ps):∃s,cx x ps=some s:=⟨_,cV.2 ⟨h.formed,h.xsig,h.psig,rfl⟩⟩
theorem Mk.valid (h:Mk x ps) (n t:Int):validH keysH x ps n t=(inB t x.sf (x.st- 1)&&inB n x.rf (x.rt- 1)):=lL h n t
theorem Mk.here (h:Mk x ps):validH keysH x ps x.rf x.sf=true:=h
end
theorem yE (holder r0 r1 s0 s1 carrier serial:Int) (l:List Cin):Mk (madeW holder r0 r1 s0 s1 carrier serial l) (madeL holder r0 r1 s0 s1 l):=by
 have hb:=Wsh.ok_bnd (oU holder r0 r1 s0 s1 carrier serial l)
 unfold Mk validH
 rw[vp,Ai,Ai]
 ·rfl
 ·simp[inB]; omega
 ·simp[inB]; omega
theorem zu {holder r0 r1 s0 s1 carrier serial:Int} {cv:Value} {ys:List Cin} {w0:World} {x:Wsh} {ps:List Pxy} (hx:madeW holder r0 r1 s0 s1 carrier serial ys=x) (hps:madeL holder r0 r1 s0 s1 ys=ps) (hcv:SlAt w0 cv 5 (ys.map Cin.cells)) (hys:∀y∈ys,y.wt) (h0:i64 holder) (h1:i64 r0) (h2:i64 r1) (h3:i64 s0) (h4:i64 s1) (h5:i64 carrier) (h6:i64 serial):
  Ret Tryz.prog 32 #[.agg #[jv holder,jv r0,jv r1,jv s0,jv s1,jv carrier,jv serial,cv]] w0 (MemR w0 (λv:Value=>.tuple #[.agg #[jv x.signer,jv x.holder,jv x.rf,jv x.rt,jv x.carrier,jv x.serial,jv x.sf,jv x.st,sv x.sig],v]) (λv=>[own v 144 7 (ps.map Pxy.cells)]) (λ_=>True)):=by
 subst hx; subst hps
 exact yP holder r0 r1 s0 s1 carrier serial cv ys w0 hcv hys h0 h1 h2 h3 h4 h5 h6
end Go.Proofs.YtliklcmddmpdfaaGreatDoor
namespace Go.Proofs.YtliklcmddmpdfaaGreatDoor
open Go.RowKit Go.PW _root_.Go.Proofs.Tryz
theorem Pxy.ok_bnd {p:Pxy} (h:p.ok=true):0≤p.rt∧p.rt≤100000000:=by
 simp only[Pxy.ok,cG,zT,zZ] at h; omega
theorem ze {x bw:Wsh} {how n:Int} {w0:World} (hbw:bentW x how n=bw) (hh: -9223372036854775808≤how∧how≤9223372036854775807) (hx:x.rt<9223372036854775807) (hx2: -9223372036854775808≤x.rt):
  Ret Tryz.prog 105 #[.agg #[jv x.signer,jv x.holder,jv x.rf,jv x.rt,jv x.carrier,jv x.serial,jv x.sf,jv x.st,sv x.sig],jv how,jv n] w0 λv w=>v=.tuple #[.agg #[jv bw.signer,jv bw.holder,jv bw.rf,jv bw.rt,jv bw.carrier,jv bw.serial,jv bw.sf,jv bw.st,sv bw.sig],.bool (!(decide (bw=x)))]∧Ext No w0 w:=by
 subst hbw; exact yw x how n w0 hh hx hx2
section
variable {ks:List By} {x:Wsh} {ps:List Pxy} {number t:Int}
theorem uZ {k:Nat} (hk:k<ps.length) (h:(ps.getD k Pxy.z).ok=true):badIdx (ps.drop k) k=badIdx (ps.drop (k+1)) (k+1):=by
 rw[dP Pxy.z hk,badIdx,Am h]
theorem od {k:Nat} (hk:k<ps.length) (h:(ps.getD k Pxy.z).ok=false):badIdx (ps.drop k) k=some k:=by
 rw[dP Pxy.z hk,badIdx,Ai (by rw[h]; simp)]
end
theorem qJ (x:Wsh) (lv:Value) (ps:List Pxy) (w0:World) (hlv:SlAt w0 lv 7 (ps.map Pxy.cells)):
  Ret Tryz.prog 152 #[.agg #[jv x.signer,jv x.holder,jv x.rf,jv x.rt,jv x.carrier,jv x.serial,jv x.sf,jv x.st,sv x.sig],lv] w0 λv w=>v=.bool (ce x ps)∧Ext No w0 w:=by
 have hxb:=hlv.2.1
 simp only[zR,big] at hxb
 refine BF func152 O ntmps152 (lb O) λa Y U=>?_
 refine aa λ_ G1=>aS Y U O [jv x.signer,jv x.holder,jv x.rf,jv x.rt,jv x.carrier,jv x.serial,jv x.sf,jv x.st,sv x.sig] O λa w1 Y U=>wla Y O λa Y=>G1<|ah λ_ G2=>?_
 refine aa λ_ G3=>wlv Y (ap (U.g 0 O) O (isAgg90 _) (sizeOf90 _)) λa Y=>ax Y U call135 O (oX x _) λa w2 Y U=>nv Y<|zM (bB O)<|zN O<|λa Y=>?_
 rcases zX (!x.ok) with hb1|hb1
 ·rw[hb1] at Y
  try simp only[qz] at hb1
  refine nv Y<|zQ<|zQ<|zQ<|zM (ay O O)<|λa Y=>G3 ?_
  replace Y:=Y.p3 1 4 13 O
  replace U:=U.k0 0 O
  refine aM Y O ?_
  refine aa λ_ G4=>wla Y O λa Y=>G4<|aq ?_
  refine am Y results152 (ae O ag) ?_
  refine⟨?_,U.ext⟩
  simp only[retv]
  unfold ce
  first|(rw[hbi,od hkx (by simpa using hb1)]; simp; done)|(rw[zW (by omega:¬ps.length≤4)]; simp; done)|(rw[(by simpa using hb1:x.ok=false)]; rfl)
 rw[hb1] at Y
 try simp only[qz] at hb1
 refine nv Y<|zP (au O)<|zP ((aK (sT:=91) (U.arg hlv) O O (runUnderlying91 _)).asi (m':=(ps.length:Int)) B9)<|zP (v_gt O O)<|zM (al O O)<|λa Y=>G3 ?_
 replace Y:=Y.p3 1 4 13 O
 replace U:=U.k0 0 O
 refine az Y O (λhc2=>?_) (λhc2=>?_)
 ·refine aa λ_ G5=>wla Y O λa Y=>G5<|aq ?_
  refine am Y results152 (ae O ag) ?_
  refine⟨?_,U.ext⟩
  simp only[retv]
  unfold ce
  first|(rw[hbi,od hkx (by simpa using hc2)]; simp; done)|(rw[zW (by omega:¬ps.length≤4)]; simp; done)|(rw[(by simpa using hc2:x.ok=false)]; rfl)
 refine ar<|G2<|ah λ_ G6=>?_
 have hxo:x.ok=true:=by simpa using hb1
 refine aa λ_ G7=>wla Y O λa Y=>G7<|aw ?_
 refine aZ (λm a w=>∃(k:Nat),m=ps.length- k∧(k≤ps.length)∧(badIdx ps 0=badIdx (ps.drop k) k)∧Fr 26 [(1,lv),(5,jv (k:Int))] [] a∧St No w0 [] w) _ ⟨0,O,Ah _,O,Y.pick [1,5],U.select [] de⟩ ?_
 rintro _ a w3 ⟨k,rfl,hk,hbi,Y,U⟩
 refine ah λ_ G8=>aa λ_ G9=>nv Y<|zN O<|zN O<|zM ((aK (sT:=91) (U.arg hlv) O O (runUnderlying91 _)).asi (m':=(ps.length:Int)) B9)<|zM (v_lt O O)<|λa Y=>G9<|az Y O (λhc3=>?_) (λhc3=>?_)
 ·have hkx:k<ps.length:=by omega
  refine ar<|G8<|ah λ_ G10=>aw<|aa λ_ G11=>nv Y<|zN O<|zN O<|zM ((ai (i:=(k:Int)) (sT:=91) (U.arg hlv) O O (runUnderlying91 _) (sizeOf144 _) om BQ).as (v':=slAddr lv (k*7)) O)<|zM ((bN (U.arg hlv) (i:=k) BQ O (isAgg144 _) (sizeOf144 _)).as (v':=.agg #[jv ((ps.getD k Pxy.z).frm),jv ((ps.getD k Pxy.z).to),jv ((ps.getD k Pxy.z).rf),jv ((ps.getD k Pxy.z).rt),jv ((ps.getD k Pxy.z).sf),jv ((ps.getD k Pxy.z).st),sv ((ps.getD k Pxy.z).sig)]) CB)<|λa Y=>ax Y U call132 O (mI (ps.getD k Pxy.z) _) λa w4 Y U=>wlv Y (bB O) λa Y=>G11 ?_
  replace Y:=Y.p3 1 5 25 O
  refine bF Y O (λhc4=>?_) (λhc4=>?_)
  ·try simp only[qz] at hc4
   refine aa λ_ G12=>wla Y O λa Y=>G12<|aq ?_
   refine am Y results152 (ae O ag) ?_
   refine⟨?_,U.ext⟩
   simp only[retv]
   unfold ce
   first|(rw[hbi,od hkx (by simpa using hc4)]; simp; done)|(rw[zW (by omega:¬ps.length≤4)]; simp; done)|(rw[(by simpa using hc4:x.ok=false)]; rfl)
  try simp only[qz] at hc4
  refine ar<|G10<|aj<|nv Y<|zN O<|zM (aL O O ⟨om,om⟩)<|zO O<|λa Y=>ab ?_
  refine⟨_,?_,k+1,O,om,(by rw[hbi]; exact uZ hkx (by simpa using hc4)),Y.pick [1,5],U.select [] de⟩
  omega
 have hke:k=ps.length:=by omega
 rw[hke,List.drop_length] at hbi
 refine aP<|G6<|aa λ_ G13=>wla Y O λa Y=>G13 ?_
 replace Y:=Y.p1 4 O
 refine aq<|am Y results152 (ae O ag) ?_
 exact⟨by simp only[retv]; unfold ce; rw[hbi,badIdx,hxo,zU (by omega:ps.length≤4)]; rfl,U.ext⟩
end Go.Proofs.YtliklcmddmpdfaaGreatDoor
namespace Go.Proofs.YtliklcmddmpdfaaGreatDoor
open Go.RowKit Go.PW _root_.Go.Proofs.Tryz
theorem iE {s:By} {p m:Nat} {l:List Int} {r:By} (hp:p≤s.length) (h:intsR m (s.drop p)=some (l,r)):s.drop (s.length- r.length)=r∧r.length≤s.length:=by
 obtain⟨h1,_⟩:=iu h
 have h5:s=(s.take p++puts l)++r:=by rw[Aw,←h1,A3]
 have h6:s.length=(s.take p++puts l).length+r.length:=by rw[←zS,←h5]
 refine⟨?_,by omega⟩
 have h7:=Bk (l₁:=s.take p++puts l) (l₂:=r)
 rw[←h5] at h7
 rw[show s.length- r.length=(s.take p++puts l).length from by omega]
 exact h7
theorem fX {ps:List Pxy} {k:Nat} (h:∀p∈ps.take k,p.sig.length=32) (h4:ps.length≤4):(encX ps k).length≤10000:=by
 unfold encX
 have h1:=eh [(ps.length:Int)]
 have h2:=jQ (l:=ps.take k) h
 rw[zS]
 rw[zV] at h2
 simp only[z7,Aa] at h1
 omega
theorem yb {x:Wsh} {ps:List Pxy} {k:Nat} (hk:k<ps.length) (h:¬((ps.getD k Pxy.z).sig.length:Int)=32):cx x ps=none:=by
 cases he:cx x ps with
 | none=>rfl
 | some s=>
  obtain⟨_,_,h3,_⟩:=cV.1 he
  have:=h3 _ (bC (d:=Pxy.z) hk)
  omega
theorem xe {ps:List Pxy} {k:Nat} (h:∀p∈ps.take k,p.sig.length=32) (hk:k=ps.length):∀p∈ps,p.sig.length=32:=by
 subst hk; rwa [List.take_length] at h
def encT (x:Wsh) (ps:List Pxy):By × Int:=match cx x ps with
 | some s=>(s,0)
 | none=>([],150)
theorem enc_T (x:Wsh) (ps:List Pxy):(match cx x ps with|some s=>Value.tuple #[sv s,jv 0]|none=>.tuple #[sv [],jv 150])=.tuple #[sv (encT x ps).1,jv (encT x ps).2]:=by
 unfold encT; cases cx x ps<;>rfl
theorem zK {s:By} {p:Nat} {a b e:Int} {w0:World} (h:intR s p=(a,b,e)) (hp:p≤s.length) (hsl:s.length≤1000000):Ret Tryz.prog 153 #[sv s,jv (p:Int)] w0 λv w=>v=.tuple #[jv a,jv b,jv e]∧Ext No w0 w:=by
 have:=t1 s p w0 hp hsl
 rw[zg,h] at this
 exact this
theorem nO (s:By) (p mm:Nat) (w0:World) (hp:p≤s.length) (hsl:s.length≤1000000) (hm:mm≤100):
  Ret Tryz.prog 107 #[sv s,jv (p:Int),jv (mm:Int)] w0 λv w=>(∃l r,intsR mm (s.drop p)=some (l,r)∧MemR w0 (λlv:Value=>.tuple #[lv,jv ((s.length- r.length:Nat):Int),.bool true]) (λlv=>[own lv 3 1 ((l).map λn=>[jv n])]) (λ_=>True) v w)∨(intsR mm (s.drop p)=none∧v=.tuple #[.slice none 0 0,jv 0,.bool false]∧Ext No w0 w):=by
 refine BH func107 O ntmps107 (lb O) λa Y U=>?_
 refine aa λ_ G1=>nv Y<|zO O<|zO O<|zO O<|λa Y=>G1<|aa λ_ G2=>?_
 refine wla Y O λa Y=>G2<|ah λ_ G3=>?_
 refine aa λ_ G4=>wla Y O λa Y=>G4<|aw ?_
 replace U:St No w0 [own (.slice none 0 0) 3 1 ((([]:List Int)).map λn=>[jv n])] w0:=U.nil_own
 refine aZ (λm a w=>∃(k:Nat) (q:Nat) (pre:List Int) (v:Value),m=mm- k∧(k≤mm)∧(q≤s.length)∧(intsR mm (s.drop p)=(intsR (mm- k) (s.drop q)).map λx=>(pre++x.1,x.2))∧(pre.length=k)∧Fr 35 [(0,sv s),(2,jv (mm:Int)),(1,jv (q:Int)),(9,v),(10,jv (k:Int))] [] a∧St No w0 [own v 3 1 ((pre).map λn=>[jv n])] w) _ ⟨0,p,[],.slice none 0 0,O,Ah _,hp,(by rw[Nat.sub_zero]; cases intsR mm (s.drop p)<;>simp),O,Y.pick [0,2,1,9,10],U.select [0] de⟩ ?_
 rintro _ a w1 ⟨k,q,pre,v,rfl,hk,hq,hr,hpl,Y,U⟩
 refine ah λ_ G5=>aa λ_ G6=>nv Y<|zN O<|zN O<|zM (v_lt O O)<|λa Y=>G6<|az Y O (λhc1=>?_) (λhc1=>?_)
 ·refine ar<|G5<|ah λ_ G7=>aw ?_
  obtain⟨en,ex,ee,hin⟩:∃a b d,intR s q=(a,b,d):=⟨_,_,_,rfl⟩
  refine aa λ_ G8=>nv Y<|zN O<|zN O<|λa Y=>ax Y U call153 O (zK hin hq hsl) λa w2 Y U=>nv Y<|zN O<|zM (ak O O)<|zM (ak O O)<|zM (ak O O)<|zO O<|zO O<|zO O<|λa Y=>G8 ?_
  replace Y:=Y.p8 0 2 1 9 10 11 12 13 O
  refine ah λ_ G9=>aa λ_ G10=>nv Y<|zN O<|zM (v_ne O O)<|λa Y=>G10<|cN Y O (λhc2=>?_) (λhc2=>?_)
  ·have hno:intsR mm (s.drop p)=none:=by rw[hr,show mm- k=(mm- (k+1))+1 from by omega,jE (uX hin hc2)]; rfl
   refine aa λ_ G11=>nv Y<|zO O<|zO O<|zO O<|λa Y=>G11<|aq ?_
   refine am Y results107 (ae O (ae O (ae O ag))) ?_
   exact .inr ⟨hno,O,U.ext⟩
  obtain⟨r,hrd,hex,hdr,hrl⟩:=xU hin hc2
  refine ar<|G9<|aa λ_ G12=>nv Y<|zN O<|zN O<|λa Y=>aD (E:=3) (sz:=1) O [[jv en]] kr sm O de de Y U λa w3 Y U=>aY (i:=1) (sT:=24) (inf:=Tryz.t3) (z:=jv 0) (b:=0) (off:=0) (m:=0) (c:=0) O O O (U.ow 0 O) sm underlying24 O O O O de BS BU BU de Y U λa w4 s3 Y U _=>?_
  replace U:St No w0 [own (.slice (some ⟨w2.hz,0,none⟩) 1 1) 3 1 ([[jv en]]),own s3 3 1 ((pre++[en]).map λn=>[jv n])] w4:=by rw[AH]; exact U
  refine wla Y O λa Y=>G12 ?_
  replace U:=U.k1 2 O
  refine aj<|nv (Y.p5 0 2 10 12 9 O)<|zN O<|zO O<|λa Y=>ab<|G7<|aj<|nv Y<|zN O<|zM (aL O O ⟨om,om⟩)<|zO O<|λa Y=>ab ?_
  rw[hex] at Y
  refine⟨_,?_,k+1,s.length- r.length,pre++[en],s3,O,om,om,(by rw[hr,show mm- k=(mm- (k+1))+1 from by omega,gz hrd,hdr]; cases intsR (mm- (k+1)) r<;>simp),(by rw[zS,hpl]; rfl),Y.pick [0,2,1,9,10],U.select [0] de⟩
  omega
 refine aP<|G3<|aa λ_ G13=>nv Y<|zN O<|zN O<|zO O<|zO O<|zO O<|λa Y=>G13 ?_
 replace Y:=Y.p3 6 7 8 O
 refine aq<|am Y results107 (ae O (ae O (ae O ag))) ?_
 have hmk:mm- k=0:=by omega
 rw[hmk] at hr
 have hqq:s.length- (s.drop q).length=q:=by rw[Ag]; omega
 exact .inl ⟨pre,s.drop q,by rw[hr]; simp[intsR],v,by rw[hqq]; rfl,trivial,U.ext,St.out (E:=[own v 3 1 ((pre).map λn=>[jv n])]) (H:=[]) U⟩
theorem lw {s:By} {p m:Nat} {l:List Int} {r:By} {w0:World} (h:intsR m (s.drop p)=some (l,r)) (hp:p≤s.length) (hsl:s.length≤1000000) (hm:m≤100):Ret Tryz.prog 107 #[sv s,jv (p:Int),jv (m:Int)] w0 (MemR w0 (λlv:Value=>.tuple #[lv,jv ((s.length- r.length:Nat):Int),.bool true]) (λlv=>[own lv 3 1 ((l).map λn=>[jv n])]) (λ_=>True)):=by
 refine (nO s p m w0 hp hsl hm).mono λv w h2=>?_
 rcases h2 with⟨l2,r2,h3,h4⟩|⟨h3,_⟩
 ·rw[h] at h3; cases h3; exact h4
 ·rw[h] at h3; cases h3
theorem jH {s:By} {p m:Nat} {w0:World} (h:intsR m (s.drop p)=none) (hp:p≤s.length) (hsl:s.length≤1000000) (hm:m≤100):Ret Tryz.prog 107 #[sv s,jv (p:Int),jv (m:Int)] w0 λv w=>v=.tuple #[.slice none 0 0,jv 0,.bool false]∧Ext No w0 w:=by
 refine (nO s p m w0 hp hsl hm).mono λv w h2=>?_
 rcases h2 with⟨l2,r2,h3,h4⟩|⟨_,h3⟩
 ·rw[h] at h3; cases h3
 ·exact h3
theorem sa (x:Wsh) (lv:Value) (ps:List Pxy) (w0:World) (hlv:SlAt w0 lv 7 (ps.map Pxy.cells)):
  Ret Tryz.prog 106 #[.agg #[jv x.signer,jv x.holder,jv x.rf,jv x.rt,jv x.carrier,jv x.serial,jv x.sf,jv x.st,sv x.sig],lv] w0 λv w=>v=(match cx x ps with|some s=>.tuple #[sv s,jv 0]|none=>.tuple #[sv [],jv 150])∧Ext No w0 w:=by
 have hxb:=hlv.2.1
 simp only[zR,big] at hxb
 refine BF func106 O ntmps106 (lb O) λa Y U=>?_
 refine aa λ_ G1=>aS Y U O [jv x.signer,jv x.holder,jv x.rf,jv x.rt,jv x.carrier,jv x.serial,jv x.sf,jv x.st,sv x.sig] O λa w1 Y U=>nv Y<|zO O<|zO O<|λa Y=>G1<|ah λ_ G2=>?_
 refine aa λ_ G3=>nv Y<|zM (ap (U.g 0 O) O (isAgg90 _) (sizeOf90 _))<|zN O<|λa Y=>ax Y U call152 O (qJ x lv ps _ (U.arg hlv)) λa w2 Y U=>nv Y<|zM (bB O)<|zN O<|λa Y=>?_
 rcases zX (!(ce x ps)) with hb1|hb1
 ·rw[hb1] at Y
  try simp only[qz] at hb1
  refine nv Y<|zQ<|zQ<|zQ<|zQ<|zM (ay O O)<|λa Y=>G3 ?_
  replace Y:=Y.p5 1 2 4 5 17 O
  refine aM Y O ?_
  refine aa λ_ G4=>nv Y<|zO O<|zO O<|λa Y=>G4<|aq ?_
  refine am Y results106 (ae O (ae O ag)) ?_
  exact⟨by simp only[retv]; rw[gq (.inl (by simpa using hb1))]; rfl,U.ext⟩
 rw[hb1] at Y
 try simp only[qz] at hb1
 refine nv Y<|zP (ac (v:=po w0.hz 8) O kr)<|zP (ld U 0 O O (isAgg9 _) O)<|zP (bp O O (runUnderlying9 _))<|zP (v_ne O O)<|zM (al O O)<|λa Y=>G3 ?_
 replace Y:=Y.p5 1 2 4 5 17 O
 refine cN Y O (λhc2=>?_) (λhc2=>?_)
 ·refine aa λ_ G5=>nv Y<|zO O<|zO O<|λa Y=>G5<|aq ?_
  refine am Y results106 (ae O (ae O ag)) ?_
  exact⟨by simp only[retv]; rw[gq (.inr (.inl (by simpa using hc2)))]; rfl,U.ext⟩
 refine ar<|G2 ?_
 have hfo:ce x ps=true:=by simpa using hb1
 have hsx:x.sig.length=32:=by omega
 have h4:=ig hfo
 have hxo:=iJ hfo
 refine aa λ_ G6=>nv Y<|zN O<|zM ((aK (sT:=91) (U.arg hlv) O O (runUnderlying91 _)).asi (m':=(ps.length:Int)) B9)<|λa Y=>aD (E:=3) (sz:=1) O [[jv (ps.length:Int)]] kr sm O de de Y U λa w3 Y U=>ax Y U call97 O (kK [(ps.length:Int)] (.slice (some ⟨w2.hz,0,none⟩) 1 1) _ (U.ow 0 O) (by intro z hz; rw[Aq.1 hz]; unfold small; omega) sm) λa w4 Y U=>wla Y O λa Y=>G6<|ah λ_ G7=>?_
 refine aa λ_ G8=>wla Y O λa Y=>G8<|aw ?_
 have hz0:puts [(ps.length:Int)]=encX ps 0:=by unfold encX; simp
 rw[hz0] at Y
 refine aZ (λm a w=>∃(k:Nat),m=ps.length- k∧(k≤ps.length)∧(∀p∈ps.take k,p.sig.length=32)∧Fr 55 [(1,lv),(2,pq w0.hz),(7,jv (k:Int)),(6,sv (encX ps k))] [] a∧St No w0 [blk w0.hz [jv x.signer,jv x.holder,jv x.rf,jv x.rt,jv x.carrier,jv x.serial,jv x.sf,jv x.st,sv x.sig] 90] w) _ ⟨0,O,Ah _,sm,Y.pick [1,2,7,6],U.select [1] de⟩ ?_
 rintro _ a w5 ⟨k,rfl,hk,hsg,Y,U⟩
 refine ah λ_ G9=>aa λ_ G10=>nv Y<|zN O<|zN O<|zM ((aK (sT:=91) (U.arg hlv) O O (runUnderlying91 _)).asi (m':=(ps.length:Int)) B9)<|zM (v_lt O O)<|λa Y=>G10<|az Y O (λhc3=>?_) (λhc3=>?_)
 ·have hkx:k<ps.length:=by omega
  have hpk:=lT hfo _ (bC (d:=Pxy.z) hkx)
  refine ar<|G9<|ah λ_ G11=>aw<|ah λ_ G12=>aa λ_ G13=>nv Y<|zN O<|zN O<|zM ((ai (i:=(k:Int)) (sT:=91) (U.arg hlv) O O (runUnderlying91 _) (sizeOf144 _) om BQ).as (v':=slAddr lv (k*7)) O)<|zM (bA (k:=k*7) (j:=6) (U.arg hlv) (i:=k) BQ O (λ_ _=>by kernel_rfl))<|zM (aA (u:=sv ((ps.getD k Pxy.z).sig)) (i:=k) (j:=6) (U.arg hlv) BQ O (isAgg9 _) CB)<|zM (bp O O (runUnderlying9 _))<|zM (v_ne O O)<|λa Y=>G13 ?_
  replace Y:=Y.p5 1 2 7 6 34 O
  refine cN Y O (λhc4=>?_) (λhc4=>?_)
  ·refine aa λ_ G14=>nv Y<|zO O<|zO O<|λa Y=>G14<|aq ?_
   refine am Y results106 (ae O (ae O ag)) ?_
   exact⟨by simp only[retv]; rw[yb hkx hc4]; rfl,U.ext⟩
  have hsk:(ps.getD k Pxy.z).sig.length=32:=by omega
  refine ar<|G12<|aH (aI λw6 hxz=>?_)
  replace U:=U.grow hxz
  refine aQ (k:=0) 12 [6,11] Y ?_
  replace Y:=Y.p4 1 2 7 6 O
  refine bI 12 Y U<|pl_m O<|pl_m O<|pl_m O<|pl_w (λU=>(ai (i:=(k:Int)) (sT:=91) (U.arg hlv) O O (runUnderlying91 _) (sizeOf144 _) om BQ).as (v':=slAddr lv (k*7)) O)<|pl_w (λU=>(bN (U.arg hlv) (i:=k) BQ O (isAgg144 _) (sizeOf144 _)).as (v':=.agg #[jv ((ps.getD k Pxy.z).frm),jv ((ps.getD k Pxy.z).to),jv ((ps.getD k Pxy.z).rf),jv ((ps.getD k Pxy.z).rt),jv ((ps.getD k Pxy.z).sf),jv ((ps.getD k Pxy.z).st),sv ((ps.getD k Pxy.z).sig)]) CB)<|pl_r (λU=>bD call134 O (jj (ps.getD k Pxy.z) _ (Pxy.smalls_of hpk))) ?_
  refine pl_v (dI O O Cn)<|pl_m O<|pl_m O<|pl_w (λU=>(ai (i:=(k:Int)) (sT:=91) (U.arg hlv) O O (runUnderlying91 _) (sizeOf144 _) om BQ).as (v':=slAddr lv (k*7)) O)<|pl_w (λU=>bA (k:=k*7) (j:=6) (U.arg hlv) (i:=k) BQ O (λ_ _=>by kernel_rfl))<|pl_w (λU=>aA (u:=sv ((ps.getD k Pxy.z).sig)) (i:=k) (j:=6) (U.arg hlv) BQ O (isAgg9 _) CB) λa w7 Y U=>?_
  replace Y:=Y.p5 1 2 7 41 46 O
  refine ab<|aJ (k:=12) 14 [13] ?_
  refine nv Y<|zM (dI O O Cn)<|zO O<|λa Y=>ab<|aR<|G11<|aj<|nv Y<|zN O<|zM (aL O O ⟨om,om⟩)<|zO O<|λa Y=>ab ?_
  rw[show ((encX ps k)++((ps.getD k Pxy.z).content))++((ps.getD k Pxy.z).sig)=encX ps (k+1) from by rw[mA hkx]] at Y
  refine⟨_,?_,k+1,O,om,(by intro p hp; rw[cH Pxy.z hkx] at hp; rcases AJ.1 hp with hp|hp; exact hsg p hp; rw[Aq.1 hp]; exact hsk),Y.pick [1,2,7,6],U.select [0] de⟩
  omega
 have hke:k=ps.length:=by omega
 have hal:=xe hsg hke
 refine aP<|G7<|ah λ_ G15=>aH (aI λw8 hxz=>?_)
 replace U:=U.grow hxz
 refine aQ (k:=0) 6 [3,5] Y ?_
 refine bI 6 (Y.p7 1 2 7 6 22 23 24 O) U<|pl_m O<|pl_w (λU=>ap (U.g 0 O) O (isAgg90 _) (sizeOf90 _))<|pl_r (λU=>bD call37 O (iZ x _ (Wsh.smalls_of hxo)))<|pl_v (dI O O Cn)<|pl_v (ac (v:=po w0.hz 8) O kr)<|pl_w (λU=>ld U 0 O O (isAgg9 _) O) λa w9 Y U=>?_
 replace Y:=Y.p2 51 53 O
 refine ab<|aJ (k:=6) 9 [8] ?_
 refine nv Y<|zM (dI O O Cn)<|zO O<|zO O<|λa Y=>ab<|aR<|G15<|aq<|am Y results106 (ae O (ae O ag)) ?_
 exact⟨by simp only[retv]; rw[td hfo hsx hal,hke]; try rfl,U.ext⟩
theorem jS {x:Wsh} {lv:Value} {ps:List Pxy} {t:By} {e:Int} {w0:World} (h:encT x ps=(t,e)) (hlv:SlAt w0 lv 7 (ps.map Pxy.cells)):Ret Tryz.prog 106 #[.agg #[jv x.signer,jv x.holder,jv x.rf,jv x.rt,jv x.carrier,jv x.serial,jv x.sf,jv x.st,sv x.sig],lv] w0 λv w=>v=.tuple #[sv t,jv e]∧Ext No w0 w:=by
 have:=sa x lv ps w0 hlv
 rw[enc_T,h] at this
 exact this
def isS (m:Nat) (s:By):Bool:=(intsR m s).isSome
theorem xp {m:Nat} {s:By} (h:isS m s=true):∃l r,intsR m s=some (l,r):=by
 unfold isS at h
 cases hq:intsR m s with
 | none=>rw[hq] at h; cases h
 | some z=>exact⟨z.1,z.2,rfl⟩
theorem xo {m:Nat} {s:By} (h:isS m s=false):intsR m s=none:=by
 unfold isS at h
 cases hq:intsR m s with
 | none=>rfl
 | some z=>rw[hq] at h; cases h
def accR (acc:List Pxy) (m:Nat) (t:By):Option (Wsh × List Pxy):=match pxysR m t with
 | none=>none
 | some (l,q)=>wishR (acc++l) q
theorem q8 {s:By} (h:intsR 1 (s.drop 0)=none):readR s=none:=by
 rw[List.drop_zero] at h
 unfold readR
 cases hq:rdI s with
 | none=>rfl
 | some z=>obtain⟨n,r⟩:=z; rw[gz hq] at h; cases h
theorem qy {s r:By} {l:List Int} (h:intsR 1 (s.drop 0)=some (l,r)):readR s=if inB (l.getD 0 0) 0 4=true then accR [] (l.getD 0 0).toNat r else none:=by
 rw[List.drop_zero] at h
 unfold readR accR
 cases hq:rdI s with
 | none=>rw[jE hq] at h; cases h
 | some z=>
  obtain⟨n,q⟩:=z
  rw[gz hq] at h
  cases h
  rfl
theorem t7 {acc:List Pxy} {m:Nat} {t r:By} {l:List Int} (h:intsR 7 t=some (l,r)) (h2:32≤r.length):accR acc (m+1) t=accR (acc++[pxyN l (r.take 32)]) m (r.drop 32):=by
 have e:pxyR t=some (pxyN l (r.take 32),r.drop 32):=by unfold pxyR; rw[h]; exact Am h2
 unfold accR
 rw[pg e]
 cases pxysR m (r.drop 32) with
 | none=>rfl
 | some z=>simp
theorem uO {acc:List Pxy} {m:Nat} {t:By} (h:intsR 7 t=none):accR acc (m+1) t=none:=by
 unfold accR
 rw[mO (by unfold pxyR; rw[h])]
theorem tz {acc:List Pxy} {m:Nat} {t r:By} {l:List Int} (h:intsR 7 t=some (l,r)) (h2:¬32≤r.length):accR acc (m+1) t=none:=by
 unfold accR
 rw[mO (by unfold pxyR; rw[h]; exact Ai h2)]
theorem vI {acc:List Pxy} {t r:By} {l:List Int} (h:intsR 9 t=some (l,r)):accR acc 0 t=some (wshN l r,acc):=by
 unfold accR pxysR wishR
 simp only[A0]
 rw[h]
theorem qA {acc:List Pxy} {t:By} (h:intsR 9 t=none):accR acc 0 t=none:=by
 unfold accR pxysR wishR
 simp only
 rw[h]
theorem yK {x:Wsh} {ps:List Pxy} {t s:By} {e:Int} (h:encT x ps=(t,e)) (he:e=0) (ht:t=s):cx x ps=some s:=by
 unfold encT at h
 cases hq:cx x ps with
 | none=>rw[hq] at h; cases h; cases he
 | some z=>rw[hq] at h; cases h; rw[ht]
theorem sV {x:Wsh} {ps:List Pxy} {t s:By} {e:Int} (h:encT x ps=(t,e)) (hn:¬e=0∨¬t=s):cx x ps≠some s:=by
 intro hq
 unfold encT at h
 rw[hq] at h
 cases h
 rcases hn with hn|hn
 ·exact hn O
 ·exact hn O
theorem inB_b {n a b:Int} (h:inB n a b=true):a≤n∧n≤b:=by simpa [inB] using h
theorem j6 (s:By) (w0:World) (hsl:s.length≤1000000):
  Ret Tryz.prog 46 #[sv s] w0 λv w=>(∃x ps,bL s=some (x,ps)∧MemR w0 (λlv:Value=>.tuple #[.agg x.cells.toArray,lv,jv 0]) (λlv=>[own lv 144 7 (ps.map Pxy.cells)]) (λ_=>True) v w)∨(bL s=none∧v=.tuple #[.agg #[jv 0,jv 0,jv 0,jv 0,jv 0,jv 0,jv 0,jv 0,sv ([]:By)],.slice none 0 0,jv 150]∧Ext No w0 w):=by
 refine BG func46 O ntmps46 (lb O) λa Y U=>?_
 refine aa λ_ G1=>aE Y U (zeroValue90 _) [jv 0,jv 0,jv 0,jv 0,jv 0,jv 0,jv 0,jv 0,.string (⟨#[]⟩)] O λa w1 Y U=>nv Y<|zO O<|zO O<|λa Y=>G1<|aa λ_ G2=>?_
 refine wlm Y O λa Y=>?_
 rcases zX (isS 1 (s.drop 0)) with hb1|hb1
 ·obtain⟨l1,r1,h1⟩:=xp hb1
  have hl1:=(fO h1).1
  have hd1:=iE Cx h1
  refine bf Y U call107 O (lw h1 Cx hsl de) λa w2 x3 hp Y U=>?_
  revert x3 hp Y U; rintro iv2 hp Y U
  clear hp
  replace U:=U.n2 O
  refine nv Y<|zN O<|zM (ak O O)<|zM (ak O O)<|zM (ak O O)<|zO O<|zO O<|zO O<|λa Y=>G2 ?_
  refine ah λ_ G3=>aa λ_ G4=>nv (Y.p7 0 2 3 4 5 6 7 O)<|zN O<|zM ((bB O).asb (b':=false) O)<|zN O<|zP (au O)<|zP ((ai (i:=0) (sT:=24) (U.ow 0 O) O O (runUnderlying24 _) (sizeOf3 _) om BQ).as (v':=slAddr iv2 (0*1)) O)<|zP (aA (u:=jv (l1.getD 0 0)) (i:=0) (j:=0) (U.ow 0 O) BQ O (isAgg3 _) Ca)<|λa Y=>aF Y U call108 O (kT (l1.getD 0 0) 0 4 _) λa w3 Y U=>nv Y<|zP (bB O)<|zM (al O O)<|λa Y=>G4 ?_
  replace Y:=Y.p7 0 2 3 4 5 6 33 O
  refine bF Y O (λhc4=>?_) (λhc4=>?_)
  ·try simp only[qz] at hc4
   have hno:readR s=none:=by rw[qy h1]; exact Ai (by rw[show inB (l1.getD 0 0) 0 4=false from by first|exact hc4|simpa using hc4]; decide)
   refine aa λ_ G5=>wlv Y (aV (v:=.agg #[jv 0,jv 0,jv 0,jv 0,jv 0,jv 0,jv 0,jv 0,sv ([]:By)]) O kr) λa Y=>aB 1 Y U [jv 0,jv 0,jv 0,jv 0,jv 0,jv 0,jv 0,jv 0,sv ([]:By)] O (sizeOf90 _) λa w4 Y U=>nv Y<|zO O<|zO O<|λa Y=>G5<|aq ?_
   refine am Y results46 (ao O (bd (U.g 1 O) (isAgg90 _) (sizeOf90 _)) (ae O (ae O ag))) ?_
   exact .inr ⟨eX hno,O,U.ext⟩
  try simp only[qz] at hc4
  have hib:inB (l1.getD 0 0) 0 4=true:=by simpa using hc4
  have hn4:=inB_b hib
  have hin:=qy h1
  rw[Am hib] at hin
  refine ar<|G3<|aa λ_ G6=>wla Y O λa Y=>G6<|ah λ_ G7=>?_
  refine aa λ_ G8=>wla Y O λa Y=>G8<|aw ?_
  replace U:St No w0 [own (.slice none 0 0) 144 7 (([]:List Pxy).map Pxy.cells),own iv2 3 1 ((l1).map λn=>[jv n]),blk w0.hz [jv 0,jv 0,jv 0,jv 0,jv 0,jv 0,jv 0,jv 0,.string (⟨#[]⟩)] 90] w3:=U.nil_own
  refine aZ (λm a w=>∃(k:Nat) (q:Nat) (acc:List Pxy) (lv:Value),m=(l1.getD 0 0).toNat- k∧((k:Int)≤(l1.getD 0 0))∧(q≤s.length)∧(readR s=accR acc ((l1.getD 0 0).toNat- k) (s.drop q))∧(acc.length=k)∧Fr 146 [(0,sv s),(2,pq w0.hz),(5,iv2),(6,jv (q:Int)),(8,lv),(9,jv (k:Int))] [] a∧St No w0 [own lv 144 7 ((acc).map Pxy.cells),own iv2 3 1 ((l1).map λn=>[jv n]),blk w0.hz [jv 0,jv 0,jv 0,jv 0,jv 0,jv 0,jv 0,jv 0,.string (⟨#[]⟩)] 90] w) _ ⟨0,s.length- r1.length,[],.slice none 0 0,O,om,om,(by rw[hin,hd1.1]; rfl),O,Y.pick [0,2,5,6,8,9],U.select [0,1,2] de⟩ ?_
  rintro _ a w5 ⟨k,q,acc,lv,rfl,hk,hq,hacc,hal,Y,U⟩
  refine ah λ_ G9=>aa λ_ G10=>nv Y<|zN O<|zN O<|zM ((ai (i:=0) (sT:=24) (U.ow 1 O) O O (runUnderlying24 _) (sizeOf3 _) om BQ).as (v':=slAddr iv2 (0*1)) O)<|zM (aA (u:=jv (l1.getD 0 0)) (i:=0) (j:=0) (U.ow 1 O) BQ O (isAgg3 _) Ca)<|zM (v_lt O O)<|λa Y=>G10<|az Y O (λhc5=>?_) (λhc5=>?_)
  ·rw[show (l1.getD 0 0).toNat- k=((l1.getD 0 0).toNat- (k+1))+1 from by omega] at hacc
   refine ar<|G9<|ah λ_ G11=>aw<|aa λ_ G12=>nv Y<|zN O<|zN O<|λa Y=>?_
   rcases zX (isS 7 (s.drop q)) with hb6|hb6
   ·obtain⟨l7,r7,h7⟩:=xp hb6
    have hl7:=(fO h7).1
    have hd7:=iE Cx h7
    refine bf Y U call107 O (lw h7 Cx hsl de) λa w6 x8 hp Y U=>?_
    revert x8 hp Y U; rintro iv7 hp Y U
    clear hp
    replace U:=U.n4 O
    refine nv Y<|zN O<|zM (ak O O)<|zM (ak O O)<|zM (ak O O)<|zO O<|zO O<|zO O<|λa Y=>G12 ?_
    refine ah λ_ G13=>aa λ_ G14=>nv (Y.p9 0 2 5 6 8 9 10 11 12 O)<|zN O<|zM ((bB O).asb (b':=false) O)<|zN O<|zP (au O)<|zP (bp O O (runUnderlying9 _))<|zP (au O)<|zP (bJ O O ⟨om,om⟩)<|zP (v_lt O O)<|zM (al O O)<|λa Y=>G14 ?_
    replace Y:=Y.p8 0 2 5 8 9 10 11 57 O
    refine az Y O (λhc9=>?_) (λhc9=>?_)
    ·have hno:readR s=none:=by rw[hacc]; exact tz h7 om
     refine aa λ_ G15=>wlv Y (aV (v:=.agg #[jv 0,jv 0,jv 0,jv 0,jv 0,jv 0,jv 0,jv 0,sv ([]:By)]) O kr) λa Y=>aB 3 Y U [jv 0,jv 0,jv 0,jv 0,jv 0,jv 0,jv 0,jv 0,sv ([]:By)] O (sizeOf90 _) λa w7 Y U=>nv Y<|zO O<|zO O<|λa Y=>G15<|aq ?_
     refine am Y results46 (ao O (bd (U.g 3 O) (isAgg90 _) (sizeOf90 _)) (ae O (ae O ag))) ?_
     exact .inr ⟨eX hno,O,U.ext⟩
    have h32:32≤r7.length:=by omega
    rw[t7 h7 h32] at hacc
    refine ar<|G13<|ah λ_ G16=>aH (aI λw8 hxz=>?_)
    replace U:=U.grow hxz
    refine aQ (k:=0) 28 [0,27] Y ?_
    replace Y:=Y.p7 0 2 5 8 9 10 11 O
    refine bn [27] (λi=>match i with|27=>pm (λb:Nat=>.slice (some ⟨b,0,none⟩) 1 1) (λb=>[own (.slice (some ⟨b,0,none⟩) 1 1) 144 7 [[jv (l7.getD 1 0),jv (l7.getD 2 0),jv (l7.getD 3 0),jv (l7.getD 4 0),jv (l7.getD 5 0),jv (l7.getD 6 0),sv ((s.drop (s.length- r7.length)).take (((s.length- r7.length)+32)- (s.length- r7.length)))]]]) (λ_=>True)|_=>λ_ _=>False) 28 [[],[],[1],[2],[],[4],[5],[],[7],[8],[],[10],[11],[9,12],[],[14],[15],[],[17],[18],[16,19],[],[],[],[23],[21,22,24],[3,6,13,20,25],[26]] [lv,iv7,slAddr iv7 (1*1),jv (l7.getD 1 0),iv7,slAddr iv7 (2*1),jv (l7.getD 2 0),iv7,slAddr iv7 (3*1),jv (l7.getD 3 0),iv7,slAddr iv7 (4*1),jv (l7.getD 4 0),.agg #[jv (l7.getD 3 0),jv (l7.getD 4 0)],iv7,slAddr iv7 (5*1),jv (l7.getD 5 0),iv7,slAddr iv7 (6*1),jv (l7.getD 6 0),.agg #[jv (l7.getD 5 0),jv (l7.getD 6 0)],sv s,jv ((s.length- r7.length:Nat):Int),jv ((s.length- r7.length:Nat):Int),jv (((s.length- r7.length:Nat):Int)+32),sv ((s.drop (s.length- r7.length)).take (((s.length- r7.length)+32)- (s.length- r7.length))),.agg #[jv (l7.getD 1 0),jv (l7.getD 2 0),jv (l7.getD 3 0),jv (l7.getD 4 0),jv (l7.getD 5 0),jv (l7.getD 6 0),sv ((s.drop (s.length- r7.length)).take (((s.length- r7.length)+32)- (s.length- r7.length)))],undef] Y U ?_ ?_ ?_
    ·exact BO<|hqv (au rfl)<|hqv (au rfl)<|hqw (λU=>(ai (i:=1) (sT:=24) (U.ow 0 rfl) rfl rfl (runUnderlying24 _) (sizeOf3 _) om BQ).as (v':=slAddr iv7 (1*1)) rfl)<|hqw (λU=>aA (u:=jv (l7.getD 1 0)) (i:=1) (j:=0) (U.ow 0 rfl) BQ rfl (isAgg3 _) Ca)<|hqv (au rfl)<|hqw (λU=>(ai (i:=2) (sT:=24) (U.ow 0 rfl) rfl rfl (runUnderlying24 _) (sizeOf3 _) om BQ).as (v':=slAddr iv7 (2*1)) rfl)<|hqw (λU=>aA (u:=jv (l7.getD 2 0)) (i:=2) (j:=0) (U.ow 0 rfl) BQ rfl (isAgg3 _) Ca)<|hqv (au rfl)<|hqw (λU=>(ai (i:=3) (sT:=24) (U.ow 0 rfl) rfl rfl (runUnderlying24 _) (sizeOf3 _) om BQ).as (v':=slAddr iv7 (3*1)) rfl)<|
      hqw (λU=>aA (u:=jv (l7.getD 3 0)) (i:=3) (j:=0) (U.ow 0 rfl) BQ rfl (isAgg3 _) Ca)<|hqv (au rfl)<|hqw (λU=>(ai (i:=4) (sT:=24) (U.ow 0 rfl) rfl rfl (runUnderlying24 _) (sizeOf3 _) om BQ).as (v':=slAddr iv7 (4*1)) rfl)<|hqw (λU=>aA (u:=jv (l7.getD 4 0)) (i:=4) (j:=0) (U.ow 0 rfl) BQ rfl (isAgg3 _) Ca)<|hqv (aV (v:=.agg #[jv (l7.getD 3 0),jv (l7.getD 4 0)]) rfl kr)<|hqv (au rfl)<|hqw (λU=>(ai (i:=5) (sT:=24) (U.ow 0 rfl) rfl rfl (runUnderlying24 _) (sizeOf3 _) om BQ).as (v':=slAddr iv7 (5*1)) rfl)<|hqw (λU=>aA (u:=jv (l7.getD 5 0)) (i:=5) (j:=0) (U.ow 0 rfl) BQ rfl (isAgg3 _) Ca)<|hqv (au rfl)<|
      hqw (λU=>(ai (i:=6) (sT:=24) (U.ow 0 rfl) rfl rfl (runUnderlying24 _) (sizeOf3 _) om BQ).as (v':=slAddr iv7 (6*1)) rfl)<|hqw (λU=>aA (u:=jv (l7.getD 6 0)) (i:=6) (j:=0) (U.ow 0 rfl) BQ rfl (isAgg3 _) Ca)<|hqv (aV (v:=.agg #[jv (l7.getD 5 0),jv (l7.getD 6 0)]) rfl kr)<|hqv (au rfl)<|hqv (au rfl)<|hqv (au rfl)<|hqv (aL rfl rfl ⟨om,om⟩)<|
      hqv ((ff (xs:=s) (l:=(s.length- r7.length)) (h:=((s.length- r7.length)+32)) rfl rfl rfl underlying9 (.inr (by rw[show (((s.length- r7.length:Nat):Int):Int)=(((s.length- r7.length):Nat):Int) from by omega]<;>rfl)) (.inr (by rw[show (((s.length- r7.length:Nat):Int)+32:Int)=((((s.length- r7.length)+32):Nat):Int) from by omega]<;>rfl)) om Df).as (v':=sv ((s.drop (s.length- r7.length)).take (((s.length- r7.length)+32)- (s.length- r7.length)))) rfl)<|hqv (aV (v:=.agg #[jv (l7.getD 1 0),jv (l7.getD 2 0),jv (l7.getD 3 0),jv (l7.getD 4 0),jv (l7.getD 5 0),jv (l7.getD 6 0),sv ((s.drop (s.length- r7.length)).take (((s.length- r7.length)+32)- (s.length- r7.length)))]) rfl kr)<|BM (λh=>absurd sm h)<|BN
    ·intro i hi
     simp only[zY,Ab,As] at hi
     subst hi
     ·intro w U
      exact bP (E:=144) (sz:=7) O [[jv (l7.getD 1 0),jv (l7.getD 2 0),jv (l7.getD 3 0),jv (l7.getD 4 0),jv (l7.getD 5 0),jv (l7.getD 6 0),sv ((s.drop (s.length- r7.length)).take (((s.length- r7.length)+32)- (s.length- r7.length)))]] (λ_=>by kernel_rfl) sm O de
    clear Y U
    rintro _ _ ⟨b10,rfl, -,rfl⟩ a w9 Y U
    replace Y:=Y.p7 59 86 0 2 5 9 11 O
    replace U:=U.n5 O
    refine ab<|aJ (k:=28) 30 [29] ?_
    refine aY (i:=2) (sT:=91) (inf:=Tryz.t144) (z:=.agg #[jv 0,jv 0,jv 0,jv 0,jv 0,jv 0,.string (⟨#[]⟩)]) (b:=0) (off:=0) (m:=0) (c:=0) O O O (U.ow 0 O) sm underlying91 O O O O de BS CE CE de Y U λa w10 s11 Y U _=>wla Y O λa Y=>ab<|aR<|G16 ?_
    replace U:=U.k3 28 O
    refine aj<|nv (Y.p6 0 2 5 9 11 8 O)<|zN O<|zM (aL O O ⟨om,om⟩)<|zO O<|λa Y=>ab<|G11<|aj<|nv Y<|zN O<|zM (aL O O ⟨om,om⟩)<|zO O<|λa Y=>ab ?_
    replace U:St No w0 [own s11 144 7 (((acc++[pxyN l7 (r7.take 32)])).map Pxy.cells),own iv2 3 1 ((l1).map λn=>[jv n]),blk w0.hz [jv 0,jv 0,jv 0,jv 0,jv 0,jv 0,jv 0,jv 0,.string (⟨#[]⟩)] 90] w10:=by
     rw[hd7.1,show s.length- r7.length+32- (s.length- r7.length)=32 from by omega] at U
     rw[AH]; exact U
    refine⟨_,?_,k+1,s.length- r7.length+32,(acc++[pxyN l7 (r7.take 32)]),s11,O,om,om,(by rw[hacc,←Bs,hd7.1]),(by rw[zS,hal]; rfl),Y.pick [0,2,5,6,8,9],U.select [0,1,2] de⟩
    omega
   have h7:=xo hb6
   have hno:readR s=none:=by rw[hacc]; exact uO h7
   refine ax Y U call107 O (jH h7 Cx hsl de) λa w11 Y U=>nv Y<|zN O<|zM (ak O O)<|zM (ak O O)<|zM (ak O O)<|zO O<|zO O<|zO O<|λa Y=>G12 ?_
   refine ah λ_ G17=>aa λ_ G18=>nv (Y.p9 0 2 5 6 8 9 10 11 12 O)<|zN O<|zM ((bB O).asb (b':=true) O)<|zN O<|zQ<|zQ<|zQ<|zQ<|zQ<|zM (ay O O)<|λa Y=>G18 ?_
   replace Y:=Y.p8 0 2 5 8 9 10 11 57 O
   refine aM Y O ?_
   refine aa λ_ G19=>wlv Y (aV (v:=.agg #[jv 0,jv 0,jv 0,jv 0,jv 0,jv 0,jv 0,jv 0,sv ([]:By)]) O kr) λa Y=>aB 2 Y U [jv 0,jv 0,jv 0,jv 0,jv 0,jv 0,jv 0,jv 0,sv ([]:By)] O (sizeOf90 _) λa w12 Y U=>nv Y<|zO O<|zO O<|λa Y=>G19<|aq ?_
   refine am Y results46 (ao O (bd (U.g 2 O) (isAgg90 _) (sizeOf90 _)) (ae O (ae O ag))) ?_
   exact .inr ⟨eX hno,O,U.ext⟩
  rw[show (l1.getD 0 0).toNat- k=0 from by omega] at hacc
  refine aP<|G7<|aa λ_ G20=>nv Y<|zN O<|zN O<|λa Y=>?_
  rcases zX (isS 9 (s.drop q)) with hb12|hb12
  ·obtain⟨l9,r9,h9⟩:=xp hb12
   have hl9:=(fO h9).1
   have hd9:=iE Cx h9
   refine bf Y U call107 O (lw h9 Cx hsl de) λa w13 x14 hp Y U=>?_
   revert x14 hp Y U; rintro iv13 hp Y U
   clear hp
   replace U:=U.n4 O
   refine nv Y<|zN O<|zM (ak O O)<|zM (ak O O)<|zM (ak O O)<|zO O<|zO O<|zO O<|λa Y=>G20 ?_
   replace U:=U.k3 11 O
   refine ah λ_ G21=>aa λ_ G22=>nv (Y.p6 0 2 8 13 14 15 O)<|zN O<|zM ((bB O).asb (b':=false) O)<|λa Y=>G22<|aG Y O ?_
   refine ar<|G21<|ah λ_ G23=>aH (aI λw14 hxz=>?_)
   replace U:=U.grow hxz
   refine aQ (k:=0) 31 [29,30] Y ?_
   replace Y:=Y.p8 0 2 8 13 14 15 97 98 O
   refine bn [30] (λi=>match i with|30=>pm (λb:Nat=>pq b) (λb=>[blk b [jv 0,jv 0,jv 0,jv 0,jv 0,jv 0,jv 0,jv 0,.string (⟨#[]⟩)] 90]) (λ_=>True)|_=>λ_ _=>False) 31 [[],[0],[1],[],[3],[4],[],[6],[7],[],[9],[10],[8,11],[],[13],[14],[],[16],[17],[],[19],[20],[],[22],[23],[21,24],[],[],[26,27],[2,5,12,15,18,25,28],[]] [iv13,slAddr iv13 (1*1),jv (l9.getD 1 0),iv13,slAddr iv13 (2*1),jv (l9.getD 2 0),iv13,slAddr iv13 (3*1),jv (l9.getD 3 0),iv13,slAddr iv13 (4*1),jv (l9.getD 4 0),.agg #[jv (l9.getD 3 0),jv (l9.getD 4 0)],iv13,slAddr iv13 (5*1),jv (l9.getD 5 0),iv13,slAddr iv13 (6*1),jv (l9.getD 6 0),iv13,slAddr iv13 (7*1),jv (l9.getD 7 0),iv13,slAddr iv13 (8*1),jv (l9.getD 8 0),.agg #[jv (l9.getD 7 0),jv (l9.getD 8 0)],sv s,jv ((s.length- r9.length:Nat):Int),sv (s.drop (s.length- r9.length)),.agg #[jv (l9.getD 1 0),jv (l9.getD 2 0),jv (l9.getD 3 0),jv (l9.getD 4 0),jv (l9.getD 5 0),jv (l9.getD 6 0),jv (l9.getD 7 0),jv (l9.getD 8 0),sv (s.drop (s.length- r9.length))],undef] Y U ?_ ?_ ?_
   ·exact BO<|hqv (au rfl)<|hqw (λU=>(ai (i:=1) (sT:=24) (U.ow 0 rfl) rfl rfl (runUnderlying24 _) (sizeOf3 _) om BQ).as (v':=slAddr iv13 (1*1)) rfl)<|hqw (λU=>aA (u:=jv (l9.getD 1 0)) (i:=1) (j:=0) (U.ow 0 rfl) BQ rfl (isAgg3 _) Ca)<|hqv (au rfl)<|hqw (λU=>(ai (i:=2) (sT:=24) (U.ow 0 rfl) rfl rfl (runUnderlying24 _) (sizeOf3 _) om BQ).as (v':=slAddr iv13 (2*1)) rfl)<|hqw (λU=>aA (u:=jv (l9.getD 2 0)) (i:=2) (j:=0) (U.ow 0 rfl) BQ rfl (isAgg3 _) Ca)<|hqv (au rfl)<|hqw (λU=>(ai (i:=3) (sT:=24) (U.ow 0 rfl) rfl rfl (runUnderlying24 _) (sizeOf3 _) om BQ).as (v':=slAddr iv13 (3*1)) rfl)<|
     hqw (λU=>aA (u:=jv (l9.getD 3 0)) (i:=3) (j:=0) (U.ow 0 rfl) BQ rfl (isAgg3 _) Ca)<|hqv (au rfl)<|hqw (λU=>(ai (i:=4) (sT:=24) (U.ow 0 rfl) rfl rfl (runUnderlying24 _) (sizeOf3 _) om BQ).as (v':=slAddr iv13 (4*1)) rfl)<|hqw (λU=>aA (u:=jv (l9.getD 4 0)) (i:=4) (j:=0) (U.ow 0 rfl) BQ rfl (isAgg3 _) Ca)<|hqv (aV (v:=.agg #[jv (l9.getD 3 0),jv (l9.getD 4 0)]) rfl kr)<|hqv (au rfl)<|hqw (λU=>(ai (i:=5) (sT:=24) (U.ow 0 rfl) rfl rfl (runUnderlying24 _) (sizeOf3 _) om BQ).as (v':=slAddr iv13 (5*1)) rfl)<|hqw (λU=>aA (u:=jv (l9.getD 5 0)) (i:=5) (j:=0) (U.ow 0 rfl) BQ rfl (isAgg3 _) Ca)<|hqv (au rfl)<|
     hqw (λU=>(ai (i:=6) (sT:=24) (U.ow 0 rfl) rfl rfl (runUnderlying24 _) (sizeOf3 _) om BQ).as (v':=slAddr iv13 (6*1)) rfl)<|hqw (λU=>aA (u:=jv (l9.getD 6 0)) (i:=6) (j:=0) (U.ow 0 rfl) BQ rfl (isAgg3 _) Ca)<|hqv (au rfl)<|hqw (λU=>(ai (i:=7) (sT:=24) (U.ow 0 rfl) rfl rfl (runUnderlying24 _) (sizeOf3 _) om BQ).as (v':=slAddr iv13 (7*1)) rfl)<|hqw (λU=>aA (u:=jv (l9.getD 7 0)) (i:=7) (j:=0) (U.ow 0 rfl) BQ rfl (isAgg3 _) Ca)<|hqv (au rfl)<|hqw (λU=>(ai (i:=8) (sT:=24) (U.ow 0 rfl) rfl rfl (runUnderlying24 _) (sizeOf3 _) om BQ).as (v':=slAddr iv13 (8*1)) rfl)<|
     hqw (λU=>aA (u:=jv (l9.getD 8 0)) (i:=8) (j:=0) (U.ow 0 rfl) BQ rfl (isAgg3 _) Ca)<|hqv (aV (v:=.agg #[jv (l9.getD 7 0),jv (l9.getD 8 0)]) rfl kr)<|hqv (au rfl)<|hqv (au rfl)<|hqv ((ff (xs:=s) (l:=(s.length- r9.length)) (h:=s.length) rfl rfl rfl underlying9 (.inr (by rw[show (((s.length- r9.length:Nat):Int):Int)=(((s.length- r9.length):Nat):Int) from by omega]<;>rfl)) (.inl ⟨rfl,rfl⟩) om (Ay _)).as (v':=sv (s.drop (s.length- r9.length))) (by rw[AZ CF]))<|hqv (aV (v:=.agg #[jv (l9.getD 1 0),jv (l9.getD 2 0),jv (l9.getD 3 0),jv (l9.getD 4 0),jv (l9.getD 5 0),jv (l9.getD 6 0),jv (l9.getD 7 0),jv (l9.getD 8 0),sv (s.drop (s.length- r9.length))]) rfl kr)<|BM (λh=>absurd sm h)<|BN
   ·intro i hi
    simp only[zY,Ab,As] at hi
    subst hi
    ·intro w U
     exact fi (zeroValue90 _) (cs:=[jv 0,jv 0,jv 0,jv 0,jv 0,jv 0,jv 0,jv 0,.string (⟨#[]⟩)]) O
   clear Y U
   rintro _ _ ⟨b15,rfl, -,rfl⟩ a w15 Y U
   replace Y:=Y.p5 129 16 0 2 8 O
   replace U:=U.n4 O
   refine ab<|aJ (k:=31) 32 [31] ?_
   refine aB 0 Y U [jv (l9.getD 1 0),jv (l9.getD 2 0),jv (l9.getD 3 0),jv (l9.getD 4 0),jv (l9.getD 5 0),jv (l9.getD 6 0),jv (l9.getD 7 0),jv (l9.getD 8 0),sv (s.drop (s.length- r9.length))] O (sizeOf90 _) λa w16 Y U=>ab<|aR<|G23 ?_
   replace Y:=Y.p4 0 2 8 16 O
   replace U:=U.k3 13 O
   replace U:St No w0 [blk b15 [jv (l9.getD 1 0),jv (l9.getD 2 0),jv (l9.getD 3 0),jv (l9.getD 4 0),jv (l9.getD 5 0),jv (l9.getD 6 0),jv (l9.getD 7 0),jv (l9.getD 8 0),sv r9] 90,own lv 144 7 ((acc).map Pxy.cells),blk w0.hz [jv 0,jv 0,jv 0,jv 0,jv 0,jv 0,jv 0,jv 0,.string (⟨#[]⟩)] 90] w16:=by rw[hd9.1] at U; exact U
   obtain⟨et,ee,hen⟩:∃t e,encT (wshN l9 r9) acc=(t,e):=⟨_,_,rfl⟩
   have hrd:=hacc.trans (vI h9)
   refine aa λ_ G24=>nv Y<|zM (ap (U.g 0 O) O (isAgg90 _) (sizeOf90 _))<|zN O<|λa Y=>ax Y U call106 O (jS (x:=wshN l9 r9) (ps:=acc) (t:=et) (e:=ee) hen (U.ow 1 O)) λa w17 Y U=>nv Y<|zN O<|zM (ak O O)<|zM (ak O O)<|zO O<|zO O<|λa Y=>G24 ?_
   refine ah λ_ G25=>aa λ_ G26=>nv (Y.p6 0 2 8 16 17 18 O)<|zN O<|zM (v_ne O O)<|zN O<|λa Y=>?_
   rcases (Decidable.em (ee=0)).symm with hb16|hb16
   ·rw[zW hb16] at Y
    refine nv Y<|zQ<|zQ<|zQ<|zM (ay O O)<|λa Y=>G26 ?_
    replace Y:=Y.p4 2 8 16 142 O
    refine aM Y O ?_
    refine aa λ_ G27=>wlv Y (aV (v:=.agg #[jv 0,jv 0,jv 0,jv 0,jv 0,jv 0,jv 0,jv 0,sv ([]:By)]) O kr) λa Y=>aB 2 Y U [jv 0,jv 0,jv 0,jv 0,jv 0,jv 0,jv 0,jv 0,sv ([]:By)] O (sizeOf90 _) λa w18 Y U=>nv Y<|zO O<|zO O<|λa Y=>G27<|aq ?_
    refine am Y results46 (ao O (bd (U.g 2 O) (isAgg90 _) (sizeOf90 _)) (ae O (ae O ag))) ?_
    exact .inr ⟨m9 hrd (sV hen (.inl hb16)),O,U.ext⟩
   rw[zU hb16] at Y
   refine nv Y<|zP (au O)<|zP (au O)<|zP (pV O O)<|zM (al O O)<|λa Y=>G26 ?_
   replace Y:=Y.p4 2 8 16 142 O
   refine cN Y O (λhc17=>?_) (λhc17=>?_)
   ·refine aa λ_ G28=>wlv Y (aV (v:=.agg #[jv 0,jv 0,jv 0,jv 0,jv 0,jv 0,jv 0,jv 0,sv ([]:By)]) O kr) λa Y=>aB 2 Y U [jv 0,jv 0,jv 0,jv 0,jv 0,jv 0,jv 0,jv 0,sv ([]:By)] O (sizeOf90 _) λa w19 Y U=>nv Y<|zO O<|zO O<|λa Y=>G28<|aq ?_
    refine am Y results46 (ao O (bd (U.g 2 O) (isAgg90 _) (sizeOf90 _)) (ae O (ae O ag))) ?_
    exact .inr ⟨m9 hrd (sV hen (.inr hc17)),O,U.ext⟩
   refine ar<|G25<|aa λ_ G29=>nv Y<|zM (ap (U.g 0 O) O (isAgg90 _) (sizeOf90 _))<|zN O<|λa Y=>aB 2 Y U [jv (l9.getD 1 0),jv (l9.getD 2 0),jv (l9.getD 3 0),jv (l9.getD 4 0),jv (l9.getD 5 0),jv (l9.getD 6 0),jv (l9.getD 7 0),jv (l9.getD 8 0),sv r9] O (sizeOf90 _) λa w20 Y U=>nv Y<|zO O<|zO O<|λa Y=>G29<|aq ?_
   refine am Y results46 (ao O (bd (U.g 2 O) (isAgg90 _) (sizeOf90 _)) (ae O (ae O ag))) ?_
   exact .inl ⟨wshN l9 r9,acc,vR hrd (yK hen hb16 hc17),_,O,trivial,U.ext,St.out (E:=[own lv 144 7 (acc.map Pxy.cells)]) (H:=[]) (U.select [1] de)⟩
  have h9:=xo hb12
  have hno:readR s=none:=by rw[hacc]; exact qA h9
  refine ax Y U call107 O (jH h9 Cx hsl de) λa w21 Y U=>nv Y<|zN O<|zM (ak O O)<|zM (ak O O)<|zM (ak O O)<|zO O<|zO O<|zO O<|λa Y=>G20 ?_
  replace U:=U.k2 5 O
  refine ah λ_ G30=>aa λ_ G31=>nv (Y.p6 0 2 8 13 14 15 O)<|zN O<|zM ((bB O).asb (b':=true) O)<|λa Y=>G31<|aM Y O ?_
  refine aa λ_ G32=>wlv Y (aV (v:=.agg #[jv 0,jv 0,jv 0,jv 0,jv 0,jv 0,jv 0,jv 0,sv ([]:By)]) O kr) λa Y=>aB 1 Y U [jv 0,jv 0,jv 0,jv 0,jv 0,jv 0,jv 0,jv 0,sv ([]:By)] O (sizeOf90 _) λa w22 Y U=>nv Y<|zO O<|zO O<|λa Y=>G32<|aq ?_
  refine am Y results46 (ao O (bd (U.g 1 O) (isAgg90 _) (sizeOf90 _)) (ae O (ae O ag))) ?_
  exact .inr ⟨eX hno,O,U.ext⟩
 have h1:=xo hb1
 have hno:readR s=none:=q8 h1
 refine ax Y U call107 O (jH h1 Cx hsl de) λa w23 Y U=>nv Y<|zN O<|zM (ak O O)<|zM (ak O O)<|zM (ak O O)<|zO O<|zO O<|zO O<|λa Y=>G2 ?_
 refine ah λ_ G33=>aa λ_ G34=>nv (Y.p7 0 2 3 4 5 6 7 O)<|zN O<|zM ((bB O).asb (b':=true) O)<|zN O<|zQ<|zQ<|zQ<|zQ<|zQ<|zM (ay O O)<|λa Y=>G34 ?_
 replace Y:=Y.p7 0 2 3 4 5 6 33 O
 refine aM Y O ?_
 refine aa λ_ G35=>wlv Y (aV (v:=.agg #[jv 0,jv 0,jv 0,jv 0,jv 0,jv 0,jv 0,jv 0,sv ([]:By)]) O kr) λa Y=>aB 0 Y U [jv 0,jv 0,jv 0,jv 0,jv 0,jv 0,jv 0,jv 0,sv ([]:By)] O (sizeOf90 _) λa w24 Y U=>nv Y<|zO O<|zO O<|λa Y=>G35<|aq ?_
 refine am Y results46 (ao O (bd (U.g 0 O) (isAgg90 _) (sizeOf90 _)) (ae O (ae O ag))) ?_
 exact .inr ⟨eX hno,O,U.ext⟩
theorem vv {f:FuncId} {args:Array Value} {w:World} {a b:Value} (h:a=b) (hr:Ret Tryz.prog f args w λv w'=>v=a∧Ext No w w'):Ret Tryz.prog f args w λv w'=>v=b∧Ext No w w':=by subst h; exact hr
theorem cC {f:FuncId} {args:Array Value} {w:World} {b c:Bool} (h:b=c) (hr:Ret Tryz.prog f args w λv w'=>v=.bool b∧Ext No w w'):Ret Tryz.prog f args w λv w'=>v=.bool c∧Ext No w w':=by subst h; exact hr
theorem g7 {f:FuncId} {args:Array Value} {w:World} {b c:Int} (h:b=c) (hr:Ret Tryz.prog f args w λv w'=>v=jv b∧Ext No w w'):Ret Tryz.prog f args w λv w'=>v=jv c∧Ext No w w':=by subst h; exact hr
def Cas.cells (x:Cas):List Value:=[jv x.n,jv x.t,sv x.ev]
def cE (x:Cas):Int:=if x.ok=true then 0 else 210
theorem sk {acc:List Int} {m:Nat} {r q:By} {n:Int} (h:rdI r=some (n,q)):decC acc (m+1) r=decC (acc++[n]) m q:=by
 unfold decC; rw[gz h]
 cases intsR m q with
 | none=>rfl
 | some p=>obtain⟨l,t⟩:=p; simp
theorem pu {acc:List Int} {m:Nat} {r:By} (h:rdI r=none):decC acc (m+1) r=none:=by unfold decC; rw[jE h]
theorem vz {s:By}:decCas s=decC [] 2 s:=rfl
theorem ry {P:Program} {w:World} {L:List (Nat × Value)} {dst:Option Tmp} {T T' ty:TypeId} {pos:String} {af:Array Edge} {x y:Operand} (hx:ev L x=some .nilIface) (hy:ev L y=some .nilIface) (hr:(binOp .eql T .nilIface .nilIface).run P w=.ok (.bool true) w) (hg:(eqGuard .eql T x y .nilIface .nilIface).run P w=.ok () w):OpV P ⟨dst,.binOp .eql T x y T',ty,pos,af,none⟩ L w (.bool true):=
 ⟨rfl,λN df a h=>by
  simp only[execOp,h.eval hx,h.eval hy,Av,hg,hr,Al]; rfl⟩
theorem dy (n lo hi:Int) (w0:World):
  Ret Tryz.prog 49 #[jv n,jv lo,jv hi] w0 λv w=>v=.bool (inB n lo hi)∧Ext No w0 w:=by
 refine BH func49 O ntmps49 (lb O) λa Y U=>?_
 refine aa λ_ G1=>wla Y O λa Y=>G1<|aa λ_ G2=>?_
 refine nv Y<|zN O<|zN O<|zM (v_le O O)<|zN O<|λa Y=>dh (N:=15) (df:=[]) 4 [(14,.bool ((decide (lo≤n))&&(decide (n≤hi)))),(0,jv n),(1,jv lo),(2,jv hi),(6,.bool false)] ?_ (λhj=>?_)
 rotate_left
 ·rcases zX (decide (lo≤n)) with hb1|hb1
  ·rw[hb1] at Y
   have hb1b:=hb1
   try simp only[qz,zT,An,Af,Ao] at hb1
   refine nv Y<|zP (au O)<|zP (au O)<|zP (v_le O O)<|zM (ay O O)<|λa Y=>hj _ ?_
   try rw[hb1b]
   exact Y.pick [14,0,1,2,6]
  rw[hb1] at Y
  have hb1b:=hb1
  try simp only[qz,zT,An,Af,Ao] at hb1
  refine nv Y<|zQ<|zQ<|zQ<|zM (al O O)<|λa Y=>hj _ ?_
  try rw[hb1b]
  exact Y.pick [14,0,1,2,6]
 intro a Y
 refine wla Y O λa Y=>G2<|aq ?_
 refine am Y results49 (ae O ag) ?_
 exact⟨by rfl,U.ext⟩
theorem iy (x:Cas) (w0:World):
  Ret Tryz.prog 59 #[.agg #[jv x.n,jv x.t,sv x.ev]] w0 λv w=>v=.bool x.ok∧Ext No w0 w:=by
 refine BG func59 O ntmps59 (lb O) λa Y U=>?_
 refine aa λ_ G1=>aS Y U O [jv x.n,jv x.t,sv x.ev] O λa w1 Y U=>wla Y O λa Y=>G1<|aa λ_ G2=>?_
 refine nv Y<|zM (ac (v:=pq w0.hz) O kr)<|zM (ld U 0 O O (isAgg3 _) O)<|λa Y=>ax Y U call49 O (dy x.n 0 99999999 _) λa w2 Y U=>wlm Y O λa Y=>?_
 rcases zX (inB x.n 0 99999999) with hb1|hb1
 ·rw[hb1] at Y
  refine nv Y<|zP (ac (v:=po w0.hz 1) O kr)<|zP (ld U 0 O O (isAgg3 _) O)<|λa Y=>aF Y U call49 O (dy x.t 0 10000000 _) λa w3 Y U=>nv Y<|zM (ay O O)<|zN O<|λa Y=>?_
  rcases zX (inB x.t 0 10000000) with hb2|hb2
  ·rw[hb2] at Y
   refine nv Y<|zP (ac (v:=po w0.hz 2) O kr)<|zP (ld U 0 O O (isAgg9 _) O)<|zP (bp O O (runUnderlying9 _))<|zP (v_le O O)<|zM (ay O O)<|zO O<|λa Y=>G2 ?_
   replace Y:=Y.p1 2 O
   replace U:=U.k0 0 O
   refine aq<|am Y results59 (ae O ag) ?_
   refine⟨?_,U.ext⟩
   simp only[retv]
   refine Ap Value.bool ?_
   unfold Cas.ok
   simp only[hb1,hb2,A8]
   exact decide_eq_decide.2 om
  rw[hb2] at Y
  refine nv Y<|zQ<|zQ<|zQ<|zQ<|zM (al O O)<|zO O<|λa Y=>G2 ?_
  replace Y:=Y.p1 2 O
  replace U:=U.k0 0 O
  refine aq<|am Y results59 (ae O ag) ?_
  refine⟨?_,U.ext⟩
  simp only[retv]
  refine Ap Value.bool ?_
  unfold Cas.ok
  simp only[hb1,hb2,A8,Br]
 rw[hb1] at Y
 refine nv Y<|zQ<|zQ<|zQ<|zM (al O O)<|zN O<|zQ<|zQ<|zQ<|zQ<|zM (al O O)<|zO O<|λa Y=>G2 ?_
 replace Y:=Y.p1 2 O
 replace U:=U.k0 0 O
 refine aq<|am Y results59 (ae O ag) ?_
 refine⟨?_,U.ext⟩
 simp only[retv]
 refine Ap Value.bool ?_
 unfold Cas.ok
 simp only[hb1,A8,Br]
theorem yJ (x:Cas) (w0:World):
  Ret Tryz.prog 19 #[.agg #[jv x.n,jv x.t,sv x.ev]] w0 λv w=>v=.tuple #[sv (encP x),jv (cE x)]∧Ext No w0 w:=by
 refine BG func19 O ntmps19 (lb O) λa Y U=>?_
 refine aa λ_ G1=>aS Y U O [jv x.n,jv x.t,sv x.ev] O λa w1 Y U=>nv Y<|zO O<|zO O<|λa Y=>G1<|ah λ_ G2=>?_
 refine aa λ_ G3=>wlv Y (ap (U.g 0 O) O (isAgg55 _) (sizeOf55 _)) λa Y=>ax Y U call59 O (iy x _) λa w2 Y U=>wlv Y (bB O) λa Y=>G3<|bF Y O (λhc1=>?_) (λhc1=>?_)
 ·try simp only[qz] at hc1
  refine aa λ_ G4=>nv Y<|zO O<|zO O<|λa Y=>G4<|aq ?_
  refine am Y results19 (ae O (ae O ag)) ?_
  exact⟨by simp only[retv]; unfold encP cE; rw[Ai (by rw[hc1]; decide),Ai (by rw[hc1]; decide)]; rfl,U.ext⟩
 try simp only[qz] at hc1
 have hbd:=Cas.bnd hc1
 have hl1:=bQ x.n
 have hl2:=bQ x.t
 have hl3:=bQ (x.ev.length:Int)
 have hl4:(putS x.ev).length≤1000:=by unfold putS; rw[zS]; omega
 refine ar<|G2<|aa λ_ G5=>nv Y<|zM (ac (v:=pq w0.hz) O kr)<|zM (ld U 0 O O (isAgg3 _) O)<|λa Y=>ax Y U call60 O (fI x.n _ B4) λa w3 Y U=>nv Y<|zN O<|zM (ak O O)<|zM (ak O O)<|zO O<|zO O<|λa Y=>G5 ?_
 refine aa λ_ G6=>nv (Y.p4 1 2 3 4 O)<|zM (ac (v:=po w0.hz 1) O kr)<|zM (ld U 0 O O (isAgg3 _) O)<|λa Y=>ax Y U call60 O (fI x.t _ B4) λa w4 Y U=>nv Y<|zN O<|zM (ak O O)<|zM (ak O O)<|zO O<|zO O<|λa Y=>G6 ?_
 refine aa λ_ G7=>nv (Y.p5 1 2 3 4 6 O)<|zM (ac (v:=po w0.hz 2) O kr)<|zM (ld U 0 O O (isAgg9 _) O)<|λa Y=>ax Y U call61 O (nZ x.ev _ om) λa w5 Y U=>nv Y<|zN O<|zM (ak O O)<|zM (ak O O)<|zO O<|zO O<|λa Y=>G7 ?_
 replace U:=U.k0 0 O
 refine aa λ_ G8=>nv (Y.p5 2 3 4 6 8 O)<|zN O<|zN O<|zM (dI O O Cv)<|zN O<|zM (dI O O Cv)<|zO O<|zO O<|λa Y=>G8 ?_
 replace Y:=Y.p2 2 3 O
 refine aq<|am Y results19 (ae O (ae O ag)) ?_
 exact⟨by simp only[retv]; unfold encP cE; rw[Am hc1,Am hc1]; simp[Cas.enc,puts],U.ext⟩
theorem lD (w0:World):
  Ret Tryz.prog 64 #[jv 0] w0 λv w=>v=.tuple #[]∧Ext No w0 w:=by
 refine BG func64 O ntmps64 (lb O) λa Y U=>?_
 refine aa λ_ G1=>nv Y<|zN O<|zM ((v_ne O O).asb (b':=false) O)<|λa Y=>G1<|aG Y O ?_
 refine ar<|cY Y results64 ag ?_
 exact⟨by rfl,U.ext⟩
theorem jL (w0:World):
  Pan Tryz.prog 64 #[jv 10] w0 λc w=>c=[{v:=.iface 126 (.agg #[]),recovered:=false}]∧Ext No w0 w:=by
 refine ol func64 O ntmps64 (lb O) λa Y=>?_
 replace U:St No w0 [] w0:=St.init w0
 refine aa λ_ G1=>nv (Y.p1 0 O)<|zN O<|zM ((v_ne O O).asb (b':=true) O)<|λa Y=>G1<|aM Y O ?_
 refine bK<|aW 2 ?_
 refine nv Y<|zM (aV (v:=.agg #[]) O kr)<|zM (di O underlying126)<|λa Y=>ab<|ef Y O ?_
 exact fd (X:=λc w=>c=[{v:=.iface 126 (.agg #[]),recovered:=false}]∧Ext No w0 w) Y ⟨O,U.ext⟩
theorem fT {M:Nat→Prop} {w0:World} (b2 b3:Nat) (c0 c1 c2 c5:Value) (ws:World) (U:St M w0 [blk b2 [c0,c1,c2] 55,blk b3 [c5] 41] ws):
  CallsDIn Fence.wide 0 Tryz.prog 62 #[pq b2,pq b3] (.panicking [{v:=.iface 126 (.agg #[]),recovered:=false}]) ws λe u' w=>u'=(.panicking [{v:=.iface 126 (.agg #[]),recovered:=true}])∧∃x,e=.returned x∧St M w0 [blk b2 [jv 0,jv 0,sv ([]:By)] 55,blk b3 [jv 210] 41] w:=by
 refine oL (args:=[pq b2,pq b3]) func62 O ntmps62 (lb O) O O de (λ_ _=>O) (.inr ⟨O,O⟩) λa Y=>?_
 replace Y:=Y.p3 5 0 1 O
 skip
 refine aw<|aa λ_ G1=>wlv Y (lu O O kr kr) λa Y=>G1<|aG Y O ?_
 refine aa λ_ G2=>nv Y<|zM (iL O underlying126)<|zM (ak O O)<|zM (ak O O)<|λa Y=>G2<|aM Y O ?_
 refine aa λ_ G3=>aE Y U (zeroValue126 _) [] O λa w1 Y U=>aB 0 Y U [] O (sizeOf126 _) λa w2 Y U=>G3 ?_
 replace U:=U.k2 6 O
 refine aj<|wlv (Y.p2 0 1 O) (aV (v:=.agg #[jv 0,jv 0,.string (⟨#[]⟩)]) O kr) λa Y=>aB 0 Y U [jv 0,jv 0,.string (⟨#[]⟩)] O (sizeOf55 _) λa w3 Y U=>aB 1 Y U [jv 210] O (sizeOf41 _) λa w4 Y U=>ab ?_
 refine jz Y results62 ag ?_
 exact U.select [0,1] de
theorem tl (b2 b3:Nat) (ws:World):
  CallsDIn Fence.wide 0 Tryz.prog 62 #[pq b2,pq b3] .returning ws λe u' w=>u'=.returning∧∃x,e=.returned x∧Ext No ws w:=by
 refine oL (args:=[pq b2,pq b3]) func62 O ntmps62 (lb O) O O de (λ_ _=>O) (.inl ⟨O,O,O⟩) λa Y=>?_
 replace U:St No ws [] ws:=St.init ws
 refine aw<|aa λ_ G1=>wlv (Y.p3 5 0 1 O) (ry O O kr kr) λa Y=>G1<|aM Y O ?_
 refine aj<|wla Y O λa Y=>ab ?_
 refine jz Y results62 ag ?_
 exact U.ext
theorem wP (s:By) (w0:World) (hsl:s.length≤1000000):
  Ret Tryz.prog 20 #[sv s] w0 λv w=>v=.tuple #[.agg (dcX s).cells.toArray,jv (dcE s)]∧Ext No w0 w:=by
 refine sx func20 O ntmps20 (lb O) λa Y=>?_
 replace U:St No w0 [] w0:=St.init w0
 refine aa λ_ G1=>aE (Y.p1 0 O) U (zeroValue55 _) [jv 0,jv 0,.string (⟨#[]⟩)] O λa w1 Y U=>aE Y U (zeroValue41 _) [jv 0] O λa w2 Y U=>G1<|aa λ_ G2=>?_
 refine wlv Y (ck O O) λa Y=>pL Y O λa Y=>G2<|aa λ_ G3=>?_
 refine wlm Y O λa Y=>?_
 rcases zX ((rdI s).isSome) with hb1|hb1
 ·obtain⟨⟨n1,r1⟩,hq1⟩:=AU.1 hb1
  have hd1:=vz.trans (sk hq1)
  have hsf1:=(jf hq1).trans (List.suffix_refl s)
  refine ax Y U call63 O (kG sm (List.suffix_refl s) hsl hq1) λa w3 Y U=>nv Y<|zN O<|zM (ak O O)<|zM (ak O O)<|zM (ak O O)<|zO O<|zO O<|zO O<|λa Y=>G3 ?_
  replace Y:=Y.p6 0 2 3 4 5 6 O
  refine bY λ_ G4 hP4=>aW 1 ?_
  refine wlm Y O λa Y=>ab<|aW 1 ?_
  refine ax Y U call64 O (lD _) λa w4 Y U=>ab<|dN<|G4<|aa λ_ G5=>?_
  refine nv Y<|zN O<|zN O<|λa Y=>?_
  rcases zX ((rdI r1).isSome) with hb2|hb2
  ·obtain⟨⟨n2,r2⟩,hq2⟩:=AU.1 hb2
   have hd2:=hd1.trans (sk hq2)
   have hsf2:=(jf hq2).trans hsf1
   refine ax Y U call63 O (kG O hsf1 hsl hq2) λa w5 Y U=>nv Y<|zN O<|zM (ak O O)<|zM (ak O O)<|zM (ak O O)<|zO O<|zO O<|zO O<|λa Y=>G5 ?_
   replace Y:=Y.p7 0 2 3 4 7 5 6 O
   refine bY λ_ G6 hP6=>aW 1 ?_
   refine wlm Y O λa Y=>ab<|aW 1 ?_
   refine ax Y U call64 O (lD _) λa w6 Y U=>ab<|dN<|G6<|aa λ_ G7=>?_
   refine nv Y<|zN O<|zN O<|λa Y=>?_
   rcases zX ((rdS r2).isSome) with hb3|hb3
   ·obtain⟨⟨x9,r3⟩,hq3⟩:=AU.1 hb3
    have hd3:=hd2.trans (vf.trans (uV hq3))
    have hsf3:=(yx hq3).trans hsf2
    refine ax Y U call65 O (ut s r2 x9 r3 _ _ O hsf2 hsl hq3) λa w7 Y U=>nv Y<|zN O<|zM (ak O O)<|zM (ak O O)<|zM (ak O O)<|zO O<|zO O<|zO O<|λa Y=>G7 ?_
    replace Y:=Y.p8 0 2 3 4 7 8 5 6 O
    refine bY λ_ G8 hP8=>aW 1 ?_
    refine wlm Y O λa Y=>ab<|aW 1 ?_
    refine ax Y U call64 O (lD _) λa w8 Y U=>ab<|dN<|G8<|aa λ_ G9=>?_
    refine nv Y<|zN O<|zN O<|zN O<|zM (aV (v:=.agg #[jv n1,jv n2,sv x9]) O kr)<|λa Y=>aB 1 Y U [jv n1,jv n2,sv x9] O (sizeOf55 _) λa w9 Y U=>G9 ?_
    refine ah λ_ G10=>aa λ_ G11=>nv (Y.p4 0 2 3 5 O)<|zN O<|zN O<|zM (bp O O (runUnderlying9 _))<|zM (v_ne O O)<|zN O<|λa Y=>?_
    rcases (Decidable.em (((s.length- r3.length:Nat):Int)=(s.length:Int))).symm with hb4|hb4
    ·rw[zW hb4] at Y
     have hdn:=hd3.trans (ux (by intro h0; have h1:=Ap List.length h0; rw[Aa] at h1; omega))
     refine nv Y<|zQ<|zQ<|zQ<|zM (ay O O)<|λa Y=>G11 ?_
     replace Y:=Y.p3 2 3 48 O
     refine aM Y O ?_
     refine bK<|aW 2 ?_
     refine nv Y<|zM (aV (v:=.agg #[]) O kr)<|zM (di O underlying126)<|λa Y=>ab<|ef Y O ?_
     replace U:=U.s2 [1,0] de rfl
     exact bE Y call62 (fT _ _ _ _ _ _ _ U) results20 (λw9 U=>⟨(ao O (bd (U.g 0 O) (isAgg55 _) (sizeOf55 _)) (ao O (aN (U.g 1 O) (isAgg41 _)) ag)),by simp only[retv]; unfold dcX dcE; rw[hdn]; rfl,U.ext⟩)
    rw[zU hb4] at Y
    have hqn:r3=[]:=AC (by have:=hsf3.length_le; omega)
    refine wly Y (ap (U.g 1 O) O (isAgg55 _) (sizeOf55 _)) λa Y=>aF Y U call59 O (iy (⟨n1,n2,x9⟩:Cas) _) λa w10 Y U=>nv Y<|zP (bB O)<|zM (al O O)<|λa Y=>G11 ?_
    replace Y:=Y.p3 2 3 48 O
    refine bF Y O (λhc5=>?_) (λhc5=>?_)
    ·try simp only[qz] at hc5
     have hdn:=hd3.trans (uo (by exact hc5))
     refine bK<|aW 2 ?_
     refine nv Y<|zM (aV (v:=.agg #[]) O kr)<|zM (di O underlying126)<|λa Y=>ab<|ef Y O ?_
     replace U:=U.s2 [1,0] de rfl
     exact bE Y call62 (fT _ _ _ _ _ _ _ U) results20 (λw9 U=>⟨(ao O (bd (U.g 0 O) (isAgg55 _) (sizeOf55 _)) (ao O (aN (U.g 1 O) (isAgg41 _)) ag)),by simp only[retv]; unfold dcX dcE; rw[hdn]; rfl,U.ext⟩)
    try simp only[qz] at hc5
    have hds:=hd3.trans (tT hqn (by exact hc5))
    refine ar<|G10<|aa λ_ G12=>wlv Y (ap (U.g 1 O) O (isAgg55 _) (sizeOf55 _)) λa Y=>aB 1 Y U [jv n1,jv n2,sv x9] O (sizeOf55 _) λa w11 Y U=>aB 0 Y U [jv 0] O (sizeOf41 _) λa w12 Y U=>G12<|aq ?_
    refine pw (vs:=[.agg #[jv n1,jv n2,sv x9],jv 0]) Y call62 (tl _ _ _) results20 (λw9 hx=>?_)
    have U:=U.grow hx
    exact⟨(ao O (bd (U.g 1 O) (isAgg55 _) (sizeOf55 _)) (ao O (aN (U.g 0 O) (isAgg41 _)) ag)),by simp only[retv]; unfold dcX dcE; rw[hds]; rfl,U.ext⟩
   have hq3:rdS r2=none:=by
    cases h:rdS r2 with
    | none=>rfl
    | some z=>rw[h] at hb3; cases hb3
   have hdn:=hd2.trans (vf.trans (uF hq3))
   refine ax Y U call65 O (rZ O hsf2 hsl hq3) λa w13 Y U=>nv Y<|zN O<|zM (ak O O)<|zM (ak O O)<|zM (ak O O)<|zO O<|zO O<|zO O<|λa Y=>G7 ?_
   replace Y:=Y.p8 0 2 3 4 7 8 5 6 O
   refine bY λ_ G13 hP13=>aW 1 ?_
   refine wlm Y O λa Y=>ab<|oM (X:=λc w2=>c=[{v:=.iface 126 (.agg #[]),recovered:=false}]∧Ext No w13 w2) Y call64 O (jL _) ?_
   rintro _ w14 ⟨rfl,hx⟩
   have U:=U.grow hx
   refine hP13 _ _ _ ?_
   replace U:=U.s2 [1,0] de rfl
   exact bE Y call62 (fT _ _ _ _ _ _ _ U) results20 (λw9 U=>⟨(ao O (bd (U.g 0 O) (isAgg55 _) (sizeOf55 _)) (ao O (aN (U.g 1 O) (isAgg41 _)) ag)),by simp only[retv]; unfold dcX dcE; rw[hdn]; rfl,U.ext⟩)
  have hq2:rdI r1=none:=by
   cases h:rdI r1 with
   | none=>rfl
   | some z=>rw[h] at hb2; cases hb2
  have hdn:=hd1.trans (pu hq2)
  refine ax Y U call63 O (lx O hsf1 hsl hq2) λa w15 Y U=>nv Y<|zN O<|zM (ak O O)<|zM (ak O O)<|zM (ak O O)<|zO O<|zO O<|zO O<|λa Y=>G5 ?_
  replace Y:=Y.p7 0 2 3 4 7 5 6 O
  refine bY λ_ G14 hP14=>aW 1 ?_
  refine wlm Y O λa Y=>ab<|oM (X:=λc w2=>c=[{v:=.iface 126 (.agg #[]),recovered:=false}]∧Ext No w15 w2) Y call64 O (jL _) ?_
  rintro _ w16 ⟨rfl,hx⟩
  have U:=U.grow hx
  refine hP14 _ _ _ ?_
  replace U:=U.s2 [1,0] de rfl
  exact bE Y call62 (fT _ _ _ _ _ _ _ U) results20 (λw9 U=>⟨(ao O (bd (U.g 0 O) (isAgg55 _) (sizeOf55 _)) (ao O (aN (U.g 1 O) (isAgg41 _)) ag)),by simp only[retv]; unfold dcX dcE; rw[hdn]; rfl,U.ext⟩)
 have hq1:rdI s=none:=by
  cases h:rdI s with
  | none=>rfl
  | some z=>rw[h] at hb1; cases hb1
 have hdn:=vz.trans (pu hq1)
 refine ax Y U call63 O (lx sm (List.suffix_refl s) hsl hq1) λa w17 Y U=>nv Y<|zN O<|zM (ak O O)<|zM (ak O O)<|zM (ak O O)<|zO O<|zO O<|zO O<|λa Y=>G3 ?_
 replace Y:=Y.p6 0 2 3 4 5 6 O
 refine bY λ_ G15 hP15=>aW 1 ?_
 refine wlm Y O λa Y=>ab<|oM (X:=λc w2=>c=[{v:=.iface 126 (.agg #[]),recovered:=false}]∧Ext No w17 w2) Y call64 O (jL _) ?_
 rintro _ w18 ⟨rfl,hx⟩
 have U:=U.grow hx
 refine hP15 _ _ _ ?_
 replace U:=U.s2 [1,0] de rfl
 exact bE Y call62 (fT _ _ _ _ _ _ _ U) results20 (λw9 U=>⟨(ao O (bd (U.g 0 O) (isAgg55 _) (sizeOf55 _)) (ao O (aN (U.g 1 O) (isAgg41 _)) ag)),by simp only[retv]; unfold dcX dcE; rw[hdn]; rfl,U.ext⟩)
def prevN (l:List Cas):Nat→Int
 | 0=> -1
 | k+1=>(l.getD k Cas.z).n
theorem mC {l:List Cas} {k:Nat} (h:0<k):prevN l k=(l.getD (k- 1) Cas.z).n:=by
 cases k with
 | zero=>exact absurd h (Bm 0)
 | succ k=>rfl
theorem mh {l:List Cas} {k:Nat} (h:k<l.length):l.drop k=l.getD k Cas.z::l.drop (k+1):=by
 rw[AO h,z6,z8 h]; rfl
section
variable {l:List Cas} {k:Nat}
theorem oe (hk:k<l.length) (ho:(l.getD k Cas.z).ok=true) (ht:prevN l k<(l.getD k Cas.z).n):ascC (prevN l k) (l.drop k)=ascC (prevN l (k+1)) (l.drop (k+1)):=by
 rw[mh hk,ascC,ho,zU ht]; rfl
theorem wK (hk:k<l.length) (ho:(l.getD k Cas.z).ok=false):ascC (prevN l k) (l.drop k)=false:=by rw[mh hk,ascC,ho]; rfl
theorem vo (hk:k<l.length) (ht:(l.getD k Cas.z).n≤prevN l k):ascC (prevN l k) (l.drop k)=false:=by rw[mh hk,ascC,zW om,AY]; rfl
theorem mL (hk:k<l.length):entC (l.take (k+1))=entC (l.take k)++[encP (l.getD k Cas.z)]:=by rw[cH Cas.z hk,entC,AH]; rfl
end
theorem kw (c:Int) (lv:Value) (l:List Cas) (w0:World) (hlv:SlAt w0 lv 3 (l.map Cas.cells)):
  Ret Tryz.prog 31 #[.agg #[jv c,lv]] w0 λv w=>v=.bool (docOk c l)∧Ext No w0 w:=by
 have hxb:=hlv.2.1
 simp only[zR,big] at hxb
 refine BG func31 O ntmps31 (lb O) λa Y U=>?_
 refine aa λ_ G1=>aS Y U O [jv c,lv] O λa w1 Y U=>wla Y O λa Y=>G1<|ah λ_ G2=>?_
 refine aa λ_ G3=>nv Y<|zM (ac (v:=po w0.hz 1) O kr)<|zM (ld U 0 O O (isAgg30 _) O)<|zM ((aK (sT:=30) (U.arg hlv) O O (runUnderlying30 _)).asi (m':=(l.length:Int)) B9)<|zN O<|λa Y=>G3<|aw ?_
 refine aZ (λm a w=>∃(k:Nat),m=l.length- k∧(k≤l.length)∧(ascC (-1) l=ascC (prevN l k) (l.drop k))∧Fr 42 [(1,pq w0.hz),(6,lv),(7,jv (l.length:Int)),(8,jv (k:Int))] [] a∧St No w0 [blk w0.hz [jv c,lv] 32] w) _ ⟨0,O,Ah _,O,Y.pick [1,6,7,8],U.select [0] de⟩ ?_
 rintro _ a w2 ⟨k,rfl,hk,hs,Y,U⟩
 refine aa λ_ G4=>wlv Y (v_lt O O) λa Y=>G4<|ah λ_ G5=>?_
 refine az Y O (λhc1=>?_) (λhc1=>?_)
 ·have hkx:k<l.length:=by omega
  refine ar<|G5<|ah λ_ G6=>aw<|aa λ_ G7=>nv Y<|zN O<|zM ((ai (i:=(k:Int)) (sT:=30) (U.arg hlv) O O (runUnderlying30 _) (sizeOf55 _) om BQ).as (v':=slAddr lv (k*3)) O)<|zM ((bN (U.arg hlv) (i:=k) BQ O (isAgg55 _) (sizeOf55 _)).as (v':=.agg #[jv ((l.getD k Cas.z).n),jv ((l.getD k Cas.z).t),sv ((l.getD k Cas.z).ev)]) Co)<|λa Y=>aE Y U (zeroValue55 _) [jv 0,jv 0,.string (⟨#[]⟩)] O λa w3 Y U=>wla Y O λa Y=>aB 0 Y U [jv ((l.getD k Cas.z).n),jv ((l.getD k Cas.z).t),sv ((l.getD k Cas.z).ev)] O (sizeOf55 _) λa w4 Y U=>G7<|ah λ_ G8=>?_
  refine aH (aI λw5 hxz=>?_)
  replace U:=U.grow hxz
  refine aJ (k:=0) 7 [6] ?_
  refine wlv Y (ap (U.g 0 O) O (isAgg55 _) (sizeOf55 _)) λa Y=>ax Y U call59 O (iy (l.getD k Cas.z) _) λa w6 Y U=>nv Y<|zM (bB O)<|zN O<|λa Y=>?_
  rcases zX (!((l.getD k Cas.z).ok)) with hb2|hb2
  ·rw[hb2] at Y
   try simp only[qz] at hb2
   have hbad:ascC (-1) l=false:=by rw[hs]; exact wK hkx (by simpa using hb2)
   refine nv Y<|zQ<|zQ<|zQ<|λa Y=>ab<|dk (k:=7) 16 [13,15] (Y.p16 1 6 7 8 10 11 12 4 3 13 14 15 16 17 18 19 O) λa Y=>?_
   replace Y:Fr 42 [(20,undef),(21,undef),(22,undef),(23,undef),(24,undef),(25,undef),(26,undef),(27,undef),(28,undef),(1,pq w0.hz),(6,lv),(7,jv (l.length:Int)),(8,jv (k:Int)),(10,jv (k:Int)),(11,slAddr lv (k*3)),(12,.agg #[jv ((l.getD k Cas.z).n),jv ((l.getD k Cas.z).t),sv ((l.getD k Cas.z).ev)]),(4,pq w2.hz),(3,jv (k:Int)),(13,.agg #[jv ((l.getD k Cas.z).n),jv ((l.getD k Cas.z).t),sv ((l.getD k Cas.z).ev)]),(14,.bool ((l.getD k Cas.z).ok)),(15,.bool true),(16,.bool true),(17,undef),(18,undef),(19,undef)] [] a:=Y
   refine aJ (k:=16) 19 [18] ?_
   refine cf Y λa Y=>nv Y<|zQ<|zM (ay O O)<|λa Y=>ab<|aR<|G8 ?_
   replace Y:=Y.p5 1 6 7 8 31 O
   replace U:=U.k1 2 O
   refine aM Y O ?_
   refine aa λ_ G9=>wla Y O λa Y=>G9<|aq ?_
   refine am Y results31 (ae O ag) ?_
   refine⟨?_,U.ext⟩
   simp only[retv]
   refine Ap Value.bool ?_
   unfold docOk; rw[hbad]; rfl
  rw[hb2] at Y
  try simp only[qz] at hb2
  have hok:(l.getD k Cas.z).ok=true:=by simpa using hb2
  have hbn:=Cas.bnd hok
  refine nv Y<|zP (au O)<|zP (v_gt O O)<|zP (au O)<|λa Y=>ab ?_
  rcases Decidable.em (0<(k:Int)) with hb3|hb3
  ·rw[zU hb3] at Y
   have hpv:=mC (l:=l) (k:=k) om
   refine aQ (k:=7) 16 [13,15] Y ?_
   replace Y:=Y.p16 1 6 7 8 10 11 12 4 3 13 14 15 16 17 18 19 O
   refine bI 9 Y U<|pl_v (ac (v:=po w0.hz 1) O kr)<|pl_w (λU=>ld U 1 O O (isAgg30 _) O)<|pl_m O<|pl_v (bJ O O ⟨om,om⟩)<|pl_w (λU=>(ai (i:=(k:Int)- 1) (sT:=30) (U.arg hlv) O O (runUnderlying30 _) (sizeOf55 _) om BQ).as (v':=slAddr lv ((k- 1)*3)) Cr)<|pl_w (λU=>bA (k:=(k- 1)*3) (j:=0) (U.arg hlv) (i:=(k- 1)) BQ O (λ_ _=>by kernel_rfl))<|pl_w (λU=>aA (u:=jv ((l.getD (k- 1) Cas.z).n)) (i:=(k- 1)) (j:=0) (U.arg hlv) BQ O (isAgg3 _) Co) ?_
   refine pl_v (ac (v:=pq w2.hz) O kr)<|pl_w (λU=>ld U 0 O O (isAgg3 _) O) λa w7 Y U=>?_
   replace Y:=Y.p8 1 6 7 8 16 19 26 28 O
   refine ab<|aJ (k:=16) 19 [18] ?_
   refine nv Y<|zP (v_ge O O)<|zP (ay O O)<|zM (al O O)<|λa Y=>ab<|aR<|G8 ?_
   replace Y:=Y.p5 1 6 7 8 31 O
   replace U:=U.k1 2 O
   refine az Y O (λhc4=>?_) (λhc4=>?_)
   ·have hbad:ascC (-1) l=false:=by rw[hs]; exact vo hkx (by rw[hpv]; exact hc4)
    refine aa λ_ G10=>wla Y O λa Y=>G10<|aq ?_
    refine am Y results31 (ae O ag) ?_
    refine⟨?_,U.ext⟩
    simp only[retv]
    refine Ap Value.bool ?_
    unfold docOk; rw[hbad]; rfl
   have hgo:prevN l k<(l.getD k Cas.z).n:=by rw[hpv]; omega
   refine ar<|G6<|aj<|nv Y<|zM (aL O O ⟨om,om⟩)<|zN O<|λa Y=>ab ?_
   refine⟨_,?_,k+1,O,om,Da,Y.pick [1,6,7,8],U.select [0] de⟩
   omega
  rw[zW hb3] at Y
  have hgo:prevN l k<(l.getD k Cas.z).n:=by
   have h0:k=0:=by omega
   rw[h0] at hbn⊢; show-1<_; omega
  refine dk (k:=7) 16 [13,15] (Y.p16 1 6 7 8 10 11 12 4 3 13 14 15 16 17 18 19 O) λa Y=>?_
  replace Y:Fr 42 [(20,undef),(21,undef),(22,undef),(23,undef),(24,undef),(25,undef),(26,undef),(27,undef),(28,undef),(1,pq w0.hz),(6,lv),(7,jv (l.length:Int)),(8,jv (k:Int)),(10,jv (k:Int)),(11,slAddr lv (k*3)),(12,.agg #[jv ((l.getD k Cas.z).n),jv ((l.getD k Cas.z).t),sv ((l.getD k Cas.z).ev)]),(4,pq w2.hz),(3,jv (k:Int)),(13,.agg #[jv ((l.getD k Cas.z).n),jv ((l.getD k Cas.z).t),sv ((l.getD k Cas.z).ev)]),(14,.bool ((l.getD k Cas.z).ok)),(15,.bool false),(16,.bool false),(17,jv (k:Int)),(18,.bool false),(19,.bool false)] [] a:=Y
  refine aJ (k:=16) 19 [18] ?_
  refine nv Y<|zQ<|zP (al O O)<|zM (al O O)<|λa Y=>ab<|aR<|G8 ?_
  replace Y:=Y.p5 1 6 7 8 31 O
  replace U:=U.k1 2 O
  refine aG Y O ?_
  refine ar<|G6<|aj<|nv Y<|zM (aL O O ⟨om,om⟩)<|zN O<|λa Y=>ab ?_
  refine⟨_,?_,k+1,O,om,Da,Y.pick [1,6,7,8],U.select [0] de⟩
  omega
 have hall:ascC (-1) l=true:=by rw[hs,show k=l.length by omega,List.drop_length]; rfl
 refine aP<|G2<|aa λ_ G11=>nv Y<|zM (ac (v:=pq w0.hz) O kr)<|zM (ld U 0 O O (isAgg3 _) O)<|λa Y=>ax Y U call49 O (dy c 0 7 _) λa w8 Y U=>wlm Y O λa Y=>?_
 rcases zX (inB c 0 7) with hb5|hb5
 ·rw[hb5] at Y
  refine nv Y<|zP (ac (v:=po w0.hz 1) O kr)<|zP (ld U 0 O O (isAgg30 _) O)<|zP ((aK (sT:=30) (U.arg hlv) O O (runUnderlying30 _)).asi (m':=(l.length:Int)) B9)<|zP (v_le O O)<|zM (ay O O)<|zO O<|λa Y=>G11 ?_
  replace Y:=Y.p1 2 O
  replace U:=U.k0 0 O
  refine aq<|am Y results31 (ae O ag) ?_
  refine⟨?_,U.ext⟩
  simp only[retv]
  refine Ap Value.bool ?_
  unfold docOk; rw[hall,hb5]; simp only[A8]; exact decide_eq_decide.2 om
 rw[hb5] at Y
 refine nv Y<|zQ<|zQ<|zQ<|zQ<|zM (al O O)<|zO O<|λa Y=>G11 ?_
 replace Y:=Y.p1 2 O
 replace U:=U.k0 0 O
 refine aq<|am Y results31 (ae O ag) ?_
 refine⟨?_,U.ext⟩
 simp only[retv]
 refine Ap Value.bool ?_
 unfold docOk; rw[hall,hb5]; rfl
theorem sK (c:Int) (lv:Value) (l:List Cas) (w0:World) (hlv:SlAt w0 lv 3 (l.map Cas.cells)) (hle:l.length≤1000):
  Ret Tryz.prog 72 #[.agg #[jv c,lv]] w0 (MemR w0 (λv:Value=>.agg #[jv c,v]) (λv=>[own v 9 1 ((entC (l)).map λs=>[sv s])]) (λ_=>True)):=by
 have hxb:=hlv.2.1
 simp only[zR,big] at hxb
 refine BG func72 O ntmps72 (lb O) λa Y U=>?_
 refine aa λ_ G1=>aS Y U O [jv c,lv] O λa w1 Y U=>aE Y U (zeroValue75 _) [jv 0,.slice none 0 0] O λa w2 Y U=>G1<|aa λ_ G2=>?_
 refine nv Y<|zM (ac (v:=pq w0.hz) O kr)<|zM (ld U 1 O O (isAgg3 _) O)<|zM (aV (v:=.agg #[jv c,.slice none 0 0]) O kr)<|λa Y=>aE Y U (zeroValue75 _) [jv 0,.slice none 0 0] O λa w3 Y U=>aB 0 Y U [jv c,.slice none 0 0] O (sizeOf75 _) λa w4 Y U=>G2<|ah λ_ G3=>?_
 refine aa λ_ G4=>nv Y<|zM (ac (v:=po w0.hz 1) O kr)<|zM (ld U 2 O O (isAgg30 _) O)<|zM ((aK (sT:=30) (U.arg hlv) O O (runUnderlying30 _)).asi (m':=(l.length:Int)) B9)<|zN O<|λa Y=>G4 ?_
 replace Y:=Y.p5 2 3 12 13 14 O
 replace U:=U.k2 3 O
 refine aw ?_
 replace U:St No w0 [own (.slice none 0 0) 9 1 ((entC (l.take 0)).map λs=>[sv s]),blk w2.hz [jv c,.slice none 0 0] 75,blk w1.hz [jv 0,.slice none 0 0] 75] w4:=U.nil_own
 refine aZ (λm a w=>∃(k:Nat) (v:Value),m=l.length- k∧(k≤l.length)∧Fr 31 [(2,pq w1.hz),(3,pq w2.hz),(12,lv),(13,jv (l.length:Int)),(14,jv (k:Int))] [] a∧St No w0 [own v 9 1 ((entC (l.take k)).map λs=>[sv s]),blk w2.hz [jv c,v] 75,blk w1.hz [jv 0,.slice none 0 0] 75] w) _ ⟨0,.slice none 0 0,O,Ah _,Y.pick [2,3,12,13,14],U.select [0,1,2] de⟩ ?_
 rintro _ a w5 ⟨k,v,rfl,hk,Y,U⟩
 refine aa λ_ G5=>wlv Y (v_lt O O) λa Y=>G5<|ah λ_ G6=>?_
 refine az Y O (λhc1=>?_) (λhc1=>?_)
 ·have hkx:k<l.length:=by omega
  refine ar<|G6<|ah λ_ G7=>aw<|aa λ_ G8=>nv Y<|zM ((ai (i:=(k:Int)) (sT:=30) (U.arg hlv) O O (runUnderlying30 _) (sizeOf55 _) om BQ).as (v':=slAddr lv (k*3)) O)<|zM ((bN (U.arg hlv) (i:=k) BQ O (isAgg55 _) (sizeOf55 _)).as (v':=.agg #[jv ((l.getD k Cas.z).n),jv ((l.getD k Cas.z).t),sv ((l.getD k Cas.z).ev)]) Co)<|λa Y=>aE Y U (zeroValue55 _) [jv 0,jv 0,.string (⟨#[]⟩)] O λa w6 Y U=>aB 0 Y U [jv ((l.getD k Cas.z).n),jv ((l.getD k Cas.z).t),sv ((l.getD k Cas.z).ev)] O (sizeOf55 _) λa w7 Y U=>G8<|aa λ_ G9=>?_
  refine wlv Y (ap (U.g 0 O) O (isAgg55 _) (sizeOf55 _)) λa Y=>ax Y U call19 O (yJ (l.getD k Cas.z) _) λa w8 Y U=>nv Y<|zN O<|zM (ak O O)<|zM (ak O O)<|zO O<|zO O<|λa Y=>G9 ?_
  replace U:=U.k3 14 O
  refine aj<|nv (Y.p6 2 3 12 13 14 6 O)<|zM (ac (v:=po w2.hz 1) O kr)<|zM (ld U 1 O O (isAgg44 _) O)<|zN O<|λa Y=>aD (E:=9) (sz:=1) O [[sv (encP (l.getD k Cas.z))]] kr sm O de de Y U λa w9 Y U=>aY (i:=1) (sT:=44) (inf:=Tryz.t9) (z:=.string (⟨#[]⟩)) (b:=0) (off:=0) (m:=0) (c:=0) O O O (U.ow 0 O) sm underlying44 O O O O de BS Cu Cu de Y U λa w10 s2 Y U _=>?_
  rw[show ((entC (l.take k)).map λs=>[sv s])++([[sv (encP (l.getD k Cas.z))]])=((entC (l.take (k+1))).map λs=>[sv s]) from by rw[mL hkx,AH]; rfl] at U
  refine wlv Y (ac (v:=po w2.hz 1) O kr) λa Y=>cb 2 Y U (U.ow 1 O) O O O (sizeOf44 _) (lb O) (ds:=[jv c,s2]) O O λa w11 Y U=>ab<|G7 ?_
  replace U:=U.k3 14 O
  refine aj<|nv (Y.p5 2 3 12 13 14 O)<|zM (aL O O ⟨om,om⟩)<|zN O<|λa Y=>ab ?_
  refine⟨_,?_,k+1,s2,O,om,Y.pick [2,3,12,13,14],U.select [0,1,2] de⟩
  omega
 obtain rfl:k=l.length:=by omega
 rw[List.take_length] at U
 refine aP<|G3<|aa λ_ G10=>wlv Y (ap (U.g 1 O) O (isAgg75 _) (sizeOf75 _)) λa Y=>bj (us:=[jv c,v]) 2 Y U O O O (sizeOf75 _) Ck (lb O) (ds:=[jv c,v]) O O λa w12 Y U=>?_
 refine G10 ?_
 replace Y:=Y.p1 2 O
 refine aq<|am Y results72 (ao O (bd (U.g 2 O) (isAgg75 _) (sizeOf75 _)) ag) ?_
 exact⟨v,O,trivial,U.ext,St.out (E:=[own v 9 1 ((entC (l)).map λs=>[sv s])]) (H:=[]) (U.select [0] de)⟩
theorem ta (x:Cas) (n:Int) (w0:World) (h0:0≤x.n∧x.n≤99999999) (h1:0≤n∧n≤99999999):
  Ret Tryz.prog 71 #[.agg #[jv x.n,jv x.t,sv x.ev],jv n] w0 λv w=>v=jv (x.n- n)∧Ext No w0 w:=by
 refine BF func71 O ntmps71 (lb O) λa Y U=>?_
 refine aa λ_ G1=>aS Y U O [jv x.n,jv x.t,sv x.ev] O λa w1 Y U=>wla Y O λa Y=>G1<|aa λ_ G2=>?_
 refine nv Y<|zM (ac (v:=pq w0.hz) O kr)<|zM (ld U 0 O O (isAgg3 _) O)<|zN O<|zM (bJ O O ⟨om,om⟩)<|zO O<|λa Y=>G2 ?_
 replace Y:=Y.p1 4 O
 replace U:=U.k0 0 O
 refine aq<|am Y results71 (ae O ag) ?_
 exact⟨by rfl,U.ext⟩
theorem rr (lv:Value) (l:List Cas) (num:Int) (w0:World) (hlv:SlAt w0 lv 3 (l.map Cas.cells)) (hasc:ascC (-1) l=true) (hnum:0≤num∧num≤99999999):
  Ret Tryz.prog 70 #[lv,jv num,.func (.func 71) #[] #[]] w0 λv w=>v=.tuple #[jv (lowC num l:Int),.bool (hitC l num)]∧Ext No w0 w:=by
 have hxb:=hlv.2.1
 simp only[zR,big] at hxb
 have hall:∀x∈l,0≤x.n∧x.n≤99999999:=λx hx=>by have:=Cas.bnd (gt hasc x hx).1; omega
 have hll:=gY num l
 refine BH func70 O ntmps70 (lb O) λa Y U=>?_
 refine aa λ_ G1=>nv Y<|zO O<|zO O<|λa Y=>G1<|aa λ_ G2=>?_
 refine nv Y<|zN O<|zM ((aK (sT:=30) (U.arg hlv) O O (runUnderlying30 _)).asi (m':=(l.length:Int)) B9)<|zO O<|λa Y=>G2<|aa λ_ G3=>?_
 refine nv Y<|zN O<|zO O<|zO O<|λa Y=>G3<|ah λ_ G4=>?_
 refine aw<|aZ (λm a w=>∃(i:Nat) (j:Nat),m=j- i∧(i≤j∧j≤l.length)∧(i≤lowC num l)∧(lowC num l≤j)∧Fr 49 [(0,lv),(1,jv num),(2,.func (.func 71) #[] #[]),(6,jv 0),(7,.bool false),(8,jv (l.length:Int)),(9,jv (i:Int)),(10,jv (j:Int))] [] a∧St No w0 [] w) _ ⟨0,l.length,O,⟨Ah _,Ay _⟩,Ah _,gY num l,Y.pick [0,1,2,6,7,8,9,10],U.select [] de⟩ ?_
 rintro _ a w1 ⟨i,j,rfl,hij,hi,hj,Y,U⟩
 refine ah λ_ G5=>aa λ_ G6=>nv Y<|zN O<|zN O<|zM (v_lt O O)<|λa Y=>G6<|az Y O (λhc1=>?_) (λhc1=>?_)
 ·have hml:((i+j) / 2)<j:=by omega
  refine ar<|G5<|aw<|aa λ_ G7=>nv Y<|zN O<|zN O<|zM (aL O O ⟨om,om⟩)<|zM ((eq O kr underlying191).asi (m':=((i+j:Nat):Int)) om)<|zM ((qP (m:=(i+j)) (n:=1) om O O).asi (m':=(((i+j) / 2:Nat):Int)) O)<|zM (gZ (n:=((i+j) / 2)) om O kr underlying3)<|zO O<|λa Y=>G7 ?_
  refine aa λ_ G8=>nv (Y.p9 0 1 2 6 7 8 9 10 11 O)<|zN O<|zN O<|zN O<|zM ((ai (i:=((((i+j) / 2):Nat):Int)) (sT:=30) (U.arg hlv) O O (runUnderlying30 _) (sizeOf55 _) om BQ).as (v':=slAddr lv (((i+j) / 2)*3)) (by rw[show (((((i+j) / 2):Nat):Int)).toNat=((i+j) / 2) from by omega]))<|zM ((bN (U.arg hlv) (i:=((i+j) / 2)) BQ O (isAgg55 _) (sizeOf55 _)).as (v':=.agg #[jv ((l.getD ((i+j) / 2) Cas.z).n),jv ((l.getD ((i+j) / 2) Cas.z).t),sv ((l.getD ((i+j) / 2) Cas.z).ev)]) Co)<|zN O<|λa Y=>dQ Y U O call71 O (ta (l.getD ((i+j) / 2) Cas.z) num _ (hall _ (bC om)) hnum) λa w2 Y U=>wlv Y (v_lt O O) λa Y=>G8 ?_
  replace Y:=Y.p10 0 1 2 6 7 8 9 10 11 31 O
  refine az Y O (λhc2=>?_) (λhc2=>?_)
  ·have hup:((i+j) / 2)+1≤lowC num l:=by
    refine Nat.lt_of_not_le λhge=>?_
    have:=ku hasc hge (show ((i+j) / 2)<l.length by omega)
    omega
   refine aj<|nv Y<|zN O<|zM (aL O O ⟨om,om⟩)<|zO O<|λa Y=>ab ?_
   refine⟨_,?_,((i+j) / 2)+1,j,O,om,om,om,Y.pick [0,1,2,6,7,8,9,10],U.select [] de⟩
   omega
  have hdn:lowC num l≤((i+j) / 2):=by
   refine Nat.le_of_not_lt λhlt=>?_
   have:=kF hlt
   omega
  refine aj<|nv Y<|zN O<|zO O<|λa Y=>ab ?_
  refine⟨_,?_,i,((i+j) / 2),O,om,om,om,Y.pick [0,1,2,6,7,8,9,10],U.select [] de⟩
  omega
 have hil:i=lowC num l:=by omega
 refine aP<|G4<|aa λ_ G9=>nv Y<|zN O<|zN O<|zN O<|zM (v_lt O O)<|zN O<|λa Y=>?_
 rcases Decidable.em ((i:Int)<(l.length:Int)) with hb3|hb3
 ·rw[zU hb3] at Y
  refine nv Y<|zP (au O)<|zP (au O)<|zP (au O)<|zP ((ai (i:=(i:Int)) (sT:=30) (U.arg hlv) O O (runUnderlying30 _) (sizeOf55 _) om BQ).as (v':=slAddr lv (i*3)) O)<|zP ((bN (U.arg hlv) (i:=i) BQ O (isAgg55 _) (sizeOf55 _)).as (v':=.agg #[jv ((l.getD i Cas.z).n),jv ((l.getD i Cas.z).t),sv ((l.getD i Cas.z).ev)]) Co)<|zP (au O)<|λa Y=>eH Y ?_
  refine dQ Y U O call71 O (ta (l.getD i Cas.z) num _ (hall _ (bC om)) hnum) λa w3 Y U=>nv Y<|zP (v_eq O O)<|zM (ay O O)<|zO O<|zO O<|λa Y=>G9 ?_
  replace Y:=Y.p2 6 7 O
  refine aq<|am Y results70 (ae O (ae O ag)) ?_
  subst hil
  refine⟨?_,U.ext⟩
  simp only[retv]
  refine Ap (λb=>Value.tuple #[jv ((lowC num l:Nat):Int),.bool b]) ?_
  unfold hitC
  rw[Bool.eq_iff_iff]
  simp only[zT,zZ,BA,false_iff,eq_self_iff_true,true_iff]
  omega
 rw[zW hb3] at Y
 refine nv Y<|zQ<|zQ<|zQ<|zQ<|zQ<|zQ<|zQ<|zQ<|zM (al O O)<|zO O<|zO O<|λa Y=>G9 ?_
 replace Y:=Y.p2 6 7 O
 refine aq<|am Y results70 (ae O (ae O ag)) ?_
 subst hil
 refine⟨?_,U.ext⟩
 simp only[retv]
 refine Ap (λb=>Value.tuple #[jv ((lowC num l:Nat):Int),.bool b]) ?_
 unfold hitC
 rw[Bool.eq_iff_iff]
 simp only[zT,zZ,BA,false_iff,eq_self_iff_true,true_iff]
 omega
end Go.Proofs.YtliklcmddmpdfaaGreatDoor
namespace Go.Proofs.YtliklcmddmpdfaaGreatDoor
open Go.RowKit Go.PW _root_.Go.Proofs.Tryz
theorem sZ {n a b:Int} (h:inB n a b=true):a≤n∧n≤b:=by simpa [inB] using h
theorem qB {s:By} (h:s.length=32):s≠[]:=λe=>by rw[e] at h; cases h
theorem xz {a b:By} (h:b≠[]):a++b≠[]:=λe=>h (List.append_eq_nil_iff.1 e).2
theorem kt (n lo hi:Int) (w0:World):
  Ret Tryz.prog 122 #[jv n,jv lo,jv hi] w0 λv w=>v=.bool (inB n lo hi)∧Ext No w0 w:=by
 refine BH func122 O ntmps122 (lb O) λa Y U=>?_
 refine aa λ_ G1=>wla Y O λa Y=>G1<|aa λ_ G2=>?_
 refine nv Y<|zN O<|zN O<|zM (v_le O O)<|zN O<|λa Y=>dh (N:=15) (df:=[]) 4 [(14,.bool ((decide (lo≤n))&&(decide (n≤hi)))),(0,jv n),(1,jv lo),(2,jv hi),(6,.bool false)] ?_ (λhj=>?_)
 rotate_left
 ·rcases zX (decide (lo≤n)) with hb1|hb1
  ·rw[hb1] at Y
   have hb1b:=hb1
   try simp only[qz,zT,An,Af,Ao] at hb1
   refine nv Y<|zP (au O)<|zP (au O)<|zP (v_le O O)<|zM (ay O O)<|λa Y=>hj _ ?_
   try rw[hb1b]
   exact Y.pick [14,0,1,2,6]
  rw[hb1] at Y
  have hb1b:=hb1
  try simp only[qz,zT,An,Af,Ao] at hb1
  refine nv Y<|zQ<|zQ<|zQ<|zM (al O O)<|λa Y=>hj _ ?_
  try rw[hb1b]
  exact Y.pick [14,0,1,2,6]
 intro a Y
 refine wla Y O λa Y=>G2<|aq ?_
 refine am Y results122 (ae O ag) ?_
 exact⟨by rfl,U.ext⟩
theorem jk (s:By) (w0:World):
  Ret Tryz.prog 120 #[sv s] w0 λv w=>v=.bool (decide ((s.length:Int)=32))∧Ext No w0 w:=by
 refine BG func120 O ntmps120 (lb O) λa Y U=>?_
 refine aa λ_ G1=>wla Y O λa Y=>G1<|aa λ_ G2=>?_
 refine nv Y<|zN O<|zM (bp O O (runUnderlying9 _))<|zM (v_eq O O)<|zO O<|λa Y=>G2<|aq ?_
 refine am Y results120 (ae O ag) ?_
 exact⟨by rfl,U.ext⟩
theorem xB (s:By) (w0:World):
  Ret Tryz.prog 167 #[sv s] w0 λv w=>v=.bool (longE s)∧Ext No w0 w:=by
 refine BG func167 O ntmps167 (lb O) λa Y U=>?_
 refine aa λ_ G1=>wla Y O λa Y=>G1<|aa λ_ G2=>?_
 refine nv Y<|zN O<|zM (bp O O (runUnderlying9 _))<|zM (v_gt O O)<|zO O<|λa Y=>G2<|aq ?_
 refine am Y results167 (ae O ag) ?_
 exact⟨by simp only[retv]; refine Ap Value.bool ?_; unfold longE; exact decide_eq_decide.2 om,U.ext⟩
theorem xH (c:Int) (ev:Value) (es:List By) (w0:World) (hev:SlAt w0 ev 1 (es.map λs=>[sv s])):
  Ret Tryz.prog 121 #[.agg #[jv c,ev]] w0 λv w=>v=.bool (regOk c es)∧Ext No w0 w:=by
 refine BG func121 O ntmps121 (lb O) λa Y U=>?_
 refine aa λ_ G1=>aS Y U O [jv c,ev] O λa w1 Y U=>wla Y O λa Y=>G1<|aa λ_ G2=>?_
 refine wla Y O λa Y=>G2<|aa λ_ G3=>?_
 refine nv Y<|zM (ac (v:=pq w0.hz) O kr)<|zM (ld U 0 O O (isAgg3 _) O)<|λa Y=>ax Y U call122 O (kt c 0 7 _) λa w2 Y U=>wlm Y O λa Y=>?_
 rcases zX (inB c 0 7) with hb1|hb1
 ·rw[hb1] at Y
  refine nv Y<|zP (ac (v:=po w0.hz 1) O kr)<|zP (ld U 0 O O (isAgg44 _) O)<|zP ((aK (sT:=44) (U.arg hev) O O (runUnderlying44 _)).asi (m':=(es.length:Int)) B9)<|zP (v_le O O)<|zM (ay O O)<|zN O<|λa Y=>?_
  rcases Decidable.em ((es.length:Int)≤60) with hb2|hb2
  ·rw[zU hb2] at Y
   refine nv Y<|zP (ac (v:=po w0.hz 1) O kr)<|zP (ld U 0 O O (isAgg44 _) O)<|zP (au O)<|λa Y=>aF Y U call146 O (su longE _ call167 (U.arg hev) (λx w _=>xB x w)) λa w3 Y U=>nv Y<|zP (bB O)<|zM (ay O O)<|zO O<|λa Y=>G3 ?_
   replace Y:=Y.p1 2 O
   replace U:=U.k0 0 O
   refine aq<|am Y results121 (ae O ag) ?_
   refine⟨?_,U.ext⟩
   simp only[retv]
   refine Ap Value.bool ?_
   unfold regOk
   rw[hb1,show decide (es.length≤60)=true from zU om]; rfl
  rw[zW hb2] at Y
  refine nv Y<|zQ<|zQ<|zQ<|zQ<|zQ<|zM (al O O)<|zO O<|λa Y=>G3 ?_
  replace Y:=Y.p1 2 O
  replace U:=U.k0 0 O
  refine aq<|am Y results121 (ae O ag) ?_
  refine⟨?_,U.ext⟩
  simp only[retv]
  refine Ap Value.bool ?_
  unfold regOk
  first|(rw[hb2]; rfl)|(rw[show decide (es.length≤60)=false from zW om,AY]; rfl)
 rw[hb1] at Y
 refine nv Y<|zQ<|zQ<|zQ<|zQ<|zM (al O O)<|zN O<|zQ<|zQ<|zQ<|zQ<|zQ<|zM (al O O)<|zO O<|λa Y=>G3 ?_
 replace Y:=Y.p1 2 O
 replace U:=U.k0 0 O
 refine aq<|am Y results121 (ae O ag) ?_
 refine⟨?_,U.ext⟩
 simp only[retv]
 refine Ap Value.bool ?_
 unfold regOk
 first|(rw[hb1]; rfl)|(rw[show decide (es.length≤60)=false from zW om,AY]; rfl)
theorem iD {M:Nat→Prop} {w0:World} (T:TypeId) (b:Nat) (ad v:Value) (bs:By) (n:Int) (ws:World) (hlie:liesAt Tryz.prog Tryz.prog.depth T (2 / Tryz.prog.cellsOf T) 0 160 1=true) (had:ad=.pointer none∨ad=pq b) (hn:small n) (hbn:bs.length+9≤1000000000) (U:St M w0 [bld T b (ad) v bs] ws):
  Ret Tryz.prog 170 #[pq b,jv n] ws λu w=>u=.tuple #[]∧∃v2,St M w0 [bld T b (pq b) v2 (bs++putI n)] w:=by
 refine aC func170 O ntmps170 (lb O) λa Y=>?_
 replace Y:=Y.p2 0 1 O
 skip
 refine aa λ_ G1=>wlm Y O λa Y=>ax Y U call60 O (fI n _ hn) λa w1 Y U=>nv Y<|zN O<|zM (ak O O)<|zM (ak O O)<|zO O<|zO O<|λa Y=>G1 ?_
 refine aj<|nv (Y.p2 0 4 O)<|zN O<|zM (aU O)<|zM (ac (v:=pq b) O kr)<|zN O<|λa Y=>br (R:=λu e'=>u=.tuple #[jv ((putI n).length:Int),.nilIface]∧∃v2,e'=bld T b (pq b) v2 (bs++(putI n))) 0 Y U O de call94 O (λh=>(gl T b _ _ _ _ _ hlie had (sj _) (by have:=(bQ n).2; omega) h).mono λu w ⟨h1,v2,h2⟩=>⟨_,⟨h1,v2,O⟩,h2⟩) ?_
 clear Y U
 rintro a w2 _ _ ⟨rfl,v1,rfl⟩ Y U
 try dsimp only at U
 replace U:=U.n1 O
 refine ab<|cY Y results170 ag ?_
 exact⟨O,_,U.select [0] de⟩
theorem nj (key:By) (hd:Hd) (w0:World) (hc:small hd.c) (hn:small hd.n) (hr:hd.root.length=32) (hk:key.length≤1000) (hk0:(blk 0 (kOf.map wv) 258).ok w0):
  Ret Tryz.prog 124 #[sv key,.agg #[jv hd.c,jv hd.n,sv hd.root,sv hd.tag]] w0 λv w=>v=sv (sealR sha key hd.c hd.n hd.root)∧Ext No w0 w:=by
 have hp4:=bQ 4
 have hpc:=bQ hd.c
 have hpn:=bQ hd.n
 have hxl:(([]:By)++putI 4++putI hd.c++putI hd.n++hd.root).length≤80:=by simp only[zS,Aa]; omega
 refine BF func124 O ntmps124 (lb O) λa Y U=>?_
 refine aa λ_ G1=>aS Y U O [jv hd.c,jv hd.n,sv hd.root,sv hd.tag] O λa w1 Y U=>wla Y O λa Y=>G1<|aa λ_ G2=>?_
 refine aE Y U (zeroValue230 _) [.pointer none,.slice none 0 0] O λa w2 Y U=>G2 ?_
 replace U:St No w0 (own (.slice none 0 0) 5 1 []::[blk w1.hz [.pointer none,.slice none 0 0] 230,blk w0.hz [jv hd.c,jv hd.n,sv hd.root,sv hd.tag] 47]) w2:=U.nil_own
 replace U:=U.s3 [1,0,2] de rfl
 replace U:St No w0 [bld 230 w1.hz (.pointer none) (.slice none 0 0) ([]:By),blk w0.hz [jv hd.c,jv hd.n,sv hd.root,sv hd.tag] 47] w2:=St.join [blk w1.hz [.pointer none,.slice none 0 0] 230,own (.slice none 0 0) 5 1 ([])] [blk w0.hz [jv hd.c,jv hd.n,sv hd.root,sv hd.tag] 47] U
 refine aa λ_ G3=>br (R:=λu e'=>u=.tuple #[]∧∃v2,e'=bld 230 w1.hz (pq w1.hz) v2 (([]:By)++putI 4)) 0 Y U O de call170 O (λh=>(iD 230 w1.hz _ _ _ 4 _ kr (.inl O) B4 Dm h).mono λu w ⟨h1,v2,h2⟩=>⟨_,⟨h1,v2,O⟩,h2⟩) ?_
 clear Y U
 rintro a w3 _ _ ⟨rfl,v1,rfl⟩ Y U
 try dsimp only at U
 replace U:=U.n2 O
 refine G3<|aa λ_ G4=>?_
 refine nv Y<|zM (ac (v:=pq w0.hz) O kr)<|zM (ld U 1 O O (isAgg3 _) O)<|λa Y=>br (R:=λu e'=>u=.tuple #[]∧∃v2,e'=bld 230 w1.hz (pq w1.hz) v2 ((([]:By)++putI 4)++putI hd.c)) 0 Y U O de call170 O (λh=>(iD 230 w1.hz _ _ _ hd.c _ kr (.inr O) hc Dm h).mono λu w ⟨h1,v2,h2⟩=>⟨_,⟨h1,v2,O⟩,h2⟩) ?_
 clear Y U
 rintro a w4 _ _ ⟨rfl,v2,rfl⟩ Y U
 try dsimp only at U
 replace U:=U.n2 O
 refine G4<|aa λ_ G5=>?_
 refine nv Y<|zM (ac (v:=po w0.hz 1) O kr)<|zM (ld U 1 O O (isAgg3 _) O)<|λa Y=>br (R:=λu e'=>u=.tuple #[]∧∃v2,e'=bld 230 w1.hz (pq w1.hz) v2 (((([]:By)++putI 4)++putI hd.c)++putI hd.n)) 0 Y U O de call170 O (λh=>(iD 230 w1.hz _ _ _ hd.n _ kr (.inr O) hn Dm h).mono λu w ⟨h1,v2,h2⟩=>⟨_,⟨h1,v2,O⟩,h2⟩) ?_
 clear Y U
 rintro a w5 _ _ ⟨rfl,v3,rfl⟩ Y U
 try dsimp only at U
 replace U:=U.n2 O
 refine G5 ?_
 refine aa λ_ G6=>nv (Y.p4 0 3 4 5 O)<|zM (ac (v:=pq w1.hz) O kr)<|zM (ac (v:=po w0.hz 2) O kr)<|zM (ld U 1 O O (isAgg9 _) O)<|λa Y=>br (R:=λu e'=>u=.tuple #[jv (hd.root.length:Int),.nilIface]∧∃v2,e'=bld 230 w1.hz (pq w1.hz) v2 ((((([]:By)++putI 4)++putI hd.c)++putI hd.n)++hd.root)) 0 Y U O de call94 O (λh=>(gl 230 w1.hz _ _ _ _ _ kr (.inr O) (qB hr) Dm h).mono λu w ⟨h1,v2,h2⟩=>⟨_,⟨h1,v2,O⟩,h2⟩) ?_
 clear Y U
 rintro a w6 _ _ ⟨rfl,v4,rfl⟩ Y U
 try dsimp only at U
 replace U:=U.n2 O
 refine G6<|aa λ_ G7=>?_
 refine nv Y<|zN O<|zM (ac (v:=pq w1.hz) O kr)<|λa Y=>br (R:=λu e'=>u=sv ((((([]:By)++putI 4)++putI hd.c)++putI hd.n)++hd.root)∧e'=blk w1.hz [pq w1.hz,v4] 230) 0 Y U O de call95 O (λh=>(ip 230 w1.hz _ _ _ (xz (qB hr)) h).mono λu w ⟨h1,h2⟩=>⟨_,⟨h1,O⟩,h2⟩) ?_
 clear Y U
 rintro a w7 _ _ ⟨rfl,rfl⟩ Y U
 try dsimp only at U
 replace U:=U.n2 O
 refine ax Y U call139 O (ky ((((([]:By)++putI 4)++putI hd.c)++putI hd.n)++hd.root) _ om (U.keepb hk0)) λa w8 Y U=>ax Y U call138 O (g9 key (leafH sha ((((([]:By)++putI 4)++putI hd.c)++putI hd.n)++hd.root)) _ om (by first|omega|(rw[gE dw]; decide)) (U.keepb hk0)) λa w9 Y U=>wla Y O λa Y=>G7 ?_
 replace Y:=Y.p1 4 O
 replace U:=U.k1 1 O
 refine aq<|am Y results124 (ae O ag) ?_
 exact⟨by simp only[retv]; simp[sealR,hdText,puts,nodeH],U.ext⟩
theorem ni (key:By) (n:Nat) (hd:Hd) (c:Int) (ev:Value) (es:List By) (w0:World) (hev:SlAt w0 ev 1 (es.map λs=>[sv s])) (hk32:key.length=32) (hr:regOk c es=true) (hn:n≤es.length) (hhd:hdOf sha key c es n=hd) (hk0:(blk 0 (kOf.map wv) 258).ok w0):
  Ret Tryz.prog 73 #[sv key,.agg #[jv c,ev],jv (n:Int)] w0 λv w=>v=.tuple #[.agg #[jv hd.c,jv hd.n,sv hd.root,sv hd.tag],jv 0]∧Ext No w0 w:=by
 obtain⟨hrc0,hrc1,hrl,hel⟩:=dB hr
 have hc:small c:=by unfold small; omega
 have hn':small (n:Int):=by unfold small; omega
 refine BH func73 O ntmps73 (lb O) λa Y U=>?_
 refine aa λ_ G1=>aS Y U O [jv c,ev] O λa w1 Y U=>aE Y U (zeroValue47 _) [jv 0,jv 0,.string (⟨#[]⟩),.string (⟨#[]⟩)] O λa w2 Y U=>wla Y O λa Y=>G1<|ah λ_ G2=>?_
 refine aa λ_ G3=>wlm Y O λa Y=>ax Y U call120 O (jk key _) λa w3 Y U=>nv Y<|zM (bB O)<|zN O<|λa Y=>?_
 rcases (Decidable.em ((key.length:Int)=32)).symm with hb1|hb1
 ·rw[zW hb1] at Y
  exfalso; omega
 rw[zU hb1] at Y
 refine wly Y (ap (U.g 1 O) O (isAgg75 _) (sizeOf75 _)) λa Y=>aF Y U call121 O (xH c ev es _ (U.arg hev)) λa w4 Y U=>nv Y<|zP (bB O)<|zM (al O O)<|zN O<|λa Y=>?_
 rcases zX (!(regOk c es)) with hb2|hb2
 ·rw[hb2] at Y
  try simp only[qz] at hb2
  rw[hr] at hb2; cases hb2
 rw[hb2] at Y
 try simp only[qz] at hb2
 refine nv Y<|zP (au O)<|zP (ac (v:=po w0.hz 1) O kr)<|zP (ld U 1 O O (isAgg44 _) O)<|zP ((aK (sT:=44) (U.arg hev) O O (runUnderlying44 _)).asi (m':=(es.length:Int)) B9)<|λa Y=>aF Y U call122 O (kt (n:Int) 0 (es.length:Int) _) λa w5 Y U=>nv Y<|zP (bB O)<|zM (al O O)<|λa Y=>G3 ?_
 replace Y:=Y.p6 0 2 4 6 7 24 O
 refine bF Y O (λhc3=>?_) (λhc3=>?_)
 ·try simp only[qz] at hc3
  rw[show inB (n:Int) 0 (es.length:Int)=true from by simp[inB]; omega] at hc3; cases hc3
 try simp only[qz] at hc3
 refine ar<|G2<|ah λ_ G4=>aH (aI λw6 hxz=>?_)
 replace U:=U.grow hxz
 refine aQ (k:=0) 10 [8,9] Y ?_
 replace Y:=Y.p5 0 2 4 6 7 O
 refine bn [9] (λi=>match i with|9=>pm (λb:Nat=>pq b) (λb=>[blk b [jv 0,jv 0,.string (⟨#[]⟩),.string (⟨#[]⟩)] 47]) (λ_=>True)|_=>λ_ _=>False) 10 [[],[0],[],[],[3],[],[4,5],[6],[1,2,7],[]] [pq w0.hz,jv c,jv (n:Int),po w0.hz 1,ev,jv (n:Int),(cut ev 1 0 n (slCap ev)),sv (rootH sha (es.take n)),.agg #[jv c,jv (n:Int),sv (rootH sha (es.take n)),sv ([]:By)],undef] Y U ?_ ?_ ?_
 ·exact BO<|hqv (ac (v:=pq w0.hz) rfl kr)<|hqw (λU=>ld U 1 rfl rfl (isAgg3 _) rfl)<|hqv (au rfl)<|hqv (ac (v:=po w0.hz 1) rfl kr)<|hqw (λU=>ld U 1 rfl rfl (isAgg44 _) rfl)<|hqv (au rfl)<|hqw (λU=>cd (l:=0) (h:=n) (U.arg hev) rfl rfl rfl underlying44 kr (.inl ⟨rfl,rfl⟩) (.inr rfl) (Ah _) B5)<|BM (λ_ _ U=>bD call123 rfl (oh (cut ev 1 0 n (slCap ev)) (es.take n) _ ((U.arg hev).cut0 (h:=n) BZ) Cp (λk hk=>AD (hel _ (AF (bC hk))) de) (U.keepb hk0)))<|hqv (aV (v:=.agg #[jv c,jv (n:Int),sv (rootH sha (es.take n)),sv ([]:By)]) rfl kr)<|BM (λh=>absurd sm h)<|BN
 ·intro i hi
  simp only[zY,Ab,As] at hi
  subst hi
  ·intro w U
   exact fi (zeroValue47 _) (cs:=[jv 0,jv 0,.string (⟨#[]⟩),.string (⟨#[]⟩)]) O
 clear Y U
 rintro _ _ ⟨b4,rfl, -,rfl⟩ a w7 Y U
 replace Y:=Y.p5 34 8 0 6 7 O
 replace U:=U.n3 O
 refine ab<|aJ (k:=10) 11 [10] ?_
 refine aB 0 Y U [jv c,jv (n:Int),sv (rootH sha (es.take n)),sv ([]:By)] O (sizeOf47 _) λa w8 Y U=>ab<|aR<|G4 ?_
 replace U:=U.k2 3 O
 refine aa λ_ G5=>nv (Y.p4 0 6 7 8 O)<|zN O<|zM (ap (U.g 0 O) O (isAgg47 _) (sizeOf47 _))<|λa Y=>ax Y U call124 O (nj key (⟨c,(n:Int),rootH sha (es.take n),([]:By)⟩:Hd) _ BT BT (by first|assumption|exact eg dw _) om (U.keepb hk0)) λa w9 Y U=>wlv Y (ac (v:=po b4 3) O kr) λa Y=>aB 0 Y U [jv c,jv (n:Int),sv (rootH sha (es.take n)),sv (sealR sha key c (n:Int) (rootH sha (es.take n)))] O (sizeOf9 _) λa w10 Y U=>G5<|aa λ_ G6=>?_
 refine wlv Y (ap (U.g 0 O) O (isAgg47 _) (sizeOf47 _)) λa Y=>aB 1 Y U [jv c,jv (n:Int),sv (rootH sha (es.take n)),sv (sealR sha key c (n:Int) (rootH sha (es.take n)))] O (sizeOf47 _) λa w11 Y U=>wla Y O λa Y=>G6 ?_
 replace Y:=Y.p2 6 7 O
 replace U:=U.k1 2 O
 refine aq<|am Y results73 (ao O (bd (U.g 0 O) (isAgg47 _) (sizeOf47 _)) (ae O ag)) ?_
 subst hhd
 exact⟨O,U.ext⟩
theorem xm (key:By) (hd:Hd) (w0:World) (hk0:(blk 0 (kOf.map wv) 258).ok w0):
  Ret Tryz.prog 113 #[sv key,.agg #[jv hd.c,jv hd.n,sv hd.root,sv hd.tag]] w0 λv w=>v=.bool (genHd sha key hd)∧Ext No w0 w:=by
 refine BF func113 O ntmps113 (lb O) λa Y U=>?_
 refine aa λ_ G1=>aS Y U O [jv hd.c,jv hd.n,sv hd.root,sv hd.tag] O λa w1 Y U=>wla Y O λa Y=>G1<|aa λ_ G2=>?_
 refine nv Y<|zM (ac (v:=pq w0.hz) O kr)<|zM (ld U 0 O O (isAgg3 _) O)<|λa Y=>ax Y U call122 O (kt hd.c 0 7 _) λa w2 Y U=>wlm Y O λa Y=>?_
 rcases zX (inB hd.c 0 7) with hb1|hb1
 ·rw[hb1] at Y
  have hcb:=sZ hb1
  have hc:small hd.c:=by unfold small; omega
  refine nv Y<|zP (ac (v:=po w0.hz 1) O kr)<|zP (ld U 0 O O (isAgg3 _) O)<|λa Y=>aF Y U call122 O (kt hd.n 0 60 _) λa w3 Y U=>nv Y<|zM (ay O O)<|zN O<|λa Y=>?_
  rcases zX (inB hd.n 0 60) with hb2|hb2
  ·rw[hb2] at Y
   have hnb:=sZ hb2
   have hn:small hd.n:=by unfold small; omega
   refine nv Y<|zP (ac (v:=po w0.hz 2) O kr)<|zP (ld U 0 O O (isAgg9 _) O)<|zP (bp O O (runUnderlying9 _))<|zP (v_eq O O)<|zM (ay O O)<|zO O<|λa Y=>G2 ?_
   replace Y:=Y.p4 0 3 4 5 O
   refine ah λ_ G3=>aH (aI λw4 hxz=>?_)
   replace U:=U.grow hxz
   refine aJ (k:=0) 6 [5] ?_
   refine wlm Y O λa Y=>ax Y U call120 O (jk key _) λa w5 Y U=>wlm Y O λa Y=>?_
   rcases Decidable.em ((key.length:Int)=32) with hb3|hb3
   ·rw[zU hb3] at Y
    refine nv Y<|zP (au O)<|zM (ay O O)<|zN O<|λa Y=>ab ?_
    rcases Decidable.em ((hd.root.length:Int)=32) with hb4|hb4
    ·rw[zU hb4] at Y
     have hr32:hd.root.length=32:=by omega
     refine aQ (k:=6) 11 [7,10] Y ?_
     refine bI 5 (Y.p10 0 3 4 5 20 21 22 23 24 25 O) U<|pl_v (ac (v:=po w0.hz 3) O kr)<|pl_w (λU=>ld U 0 O O (isAgg9 _) O)<|pl_m O<|pl_w (λU=>ap (U.g 0 O) O (isAgg47 _) (sizeOf47 _))<|pl_r (λU=>bD call124 O (nj key hd _ BT BT (by first|assumption|exact eg dw _) om (U.keepb hk0))) λa w6 Y U=>?_
     replace Y:=Y.p3 25 27 30 O
     refine ab<|aJ (k:=11) 14 [13] ?_
     refine nv Y<|zP (zd O O)<|zM (ay O O)<|zO O<|λa Y=>ab<|aR<|G3<|aq<|am Y results113 (ae O ag) ?_
     refine⟨?_,U.ext⟩
     simp only[retv]
     refine Ap Value.bool ?_
     unfold genHd
     rw[hb1,hb2,show decide (hd.root.length=32)=true from zU om,show decide (key.length=32)=true from zU om]; rfl
    rw[zW hb4] at Y
    refine dk (k:=6) 11 [7,10] (Y.p10 0 3 4 5 20 21 22 23 24 25 O) λa Y=>?_
    replace Y:=Y.p15 26 27 28 29 30 0 3 4 5 20 21 22 23 24 25 O
    refine aJ (k:=11) 14 [13] ?_
    refine nv Y<|zQ<|zM (al O O)<|zO O<|λa Y=>ab<|aR<|G3 ?_
    replace Y:=Y.p1 4 O
    replace U:=U.k0 0 O
    refine aq<|am Y results113 (ae O ag) ?_
    refine⟨?_,U.ext⟩
    simp only[retv]
    refine Ap Value.bool ?_
    unfold genHd
    first|(rw[hb4]; simp; done)|(rw[hb3]; simp; done)|(rw[hb2]; simp; done)|(rw[hb1]; simp; done)|(rw[show decide (hd.root.length=32)=false from zW om]; simp; done)|(rw[show decide (key.length=32)=false from zW om]; rfl)
   rw[zW hb3] at Y
   refine nv Y<|zQ<|zM (al O O)<|zN O<|λa Y=>ab<|dk (k:=6) 11 [7,10] (Y.p10 0 3 4 5 20 21 22 23 24 25 O) λa Y=>?_
   replace Y:=Y.p15 26 27 28 29 30 0 3 4 5 20 21 22 23 24 25 O
   refine aJ (k:=11) 14 [13] ?_
   refine nv Y<|zQ<|zM (al O O)<|zO O<|λa Y=>ab<|aR<|G3 ?_
   replace Y:=Y.p1 4 O
   replace U:=U.k0 0 O
   refine aq<|am Y results113 (ae O ag) ?_
   refine⟨?_,U.ext⟩
   simp only[retv]
   refine Ap Value.bool ?_
   unfold genHd
   first|(rw[hb3]; simp; done)|(rw[hb2]; simp; done)|(rw[hb1]; simp; done)|(rw[show decide (hd.root.length=32)=false from zW om]; simp; done)|(rw[show decide (key.length=32)=false from zW om]; rfl)
  rw[hb2] at Y
  refine nv Y<|zQ<|zQ<|zQ<|zQ<|zM (al O O)<|zO O<|λa Y=>G2 ?_
  replace Y:=Y.p4 0 3 4 5 O
  refine ah λ_ G4=>aH (aI λw7 hxz=>?_)
  replace U:=U.grow hxz
  refine aJ (k:=0) 6 [5] ?_
  refine wlm Y O λa Y=>ax Y U call120 O (jk key _) λa w8 Y U=>wlm Y O λa Y=>?_
  rcases Decidable.em ((key.length:Int)=32) with hb5|hb5
  ·rw[zU hb5] at Y
   refine nv Y<|zP (au O)<|zM (ay O O)<|zN O<|λa Y=>ab<|dk (k:=6) 11 [7,10] (Y.p10 0 3 4 5 20 21 22 23 24 25 O) λa Y=>?_
   replace Y:=Y.p15 26 27 28 29 30 0 3 4 5 20 21 22 23 24 25 O
   refine aJ (k:=11) 14 [13] ?_
   refine nv Y<|zQ<|zM (al O O)<|zO O<|λa Y=>ab<|aR<|G4 ?_
   replace Y:=Y.p1 4 O
   replace U:=U.k0 0 O
   refine aq<|am Y results113 (ae O ag) ?_
   refine⟨?_,U.ext⟩
   simp only[retv]
   refine Ap Value.bool ?_
   unfold genHd
   first|(rw[hb5]; simp; done)|(rw[hb2]; simp; done)|(rw[hb1]; simp; done)|(rw[show decide (hd.root.length=32)=false from zW om]; simp; done)|(rw[show decide (key.length=32)=false from zW om]; rfl)
  rw[zW hb5] at Y
  refine nv Y<|zQ<|zM (al O O)<|zN O<|λa Y=>ab<|dk (k:=6) 11 [7,10] (Y.p10 0 3 4 5 20 21 22 23 24 25 O) λa Y=>?_
  replace Y:=Y.p15 26 27 28 29 30 0 3 4 5 20 21 22 23 24 25 O
  refine aJ (k:=11) 14 [13] ?_
  refine nv Y<|zQ<|zM (al O O)<|zO O<|λa Y=>ab<|aR<|G4 ?_
  replace Y:=Y.p1 4 O
  replace U:=U.k0 0 O
  refine aq<|am Y results113 (ae O ag) ?_
  refine⟨?_,U.ext⟩
  simp only[retv]
  refine Ap Value.bool ?_
  unfold genHd
  first|(rw[hb5]; simp; done)|(rw[hb2]; simp; done)|(rw[hb1]; simp; done)|(rw[show decide (hd.root.length=32)=false from zW om]; simp; done)|(rw[show decide (key.length=32)=false from zW om]; rfl)
 rw[hb1] at Y
 refine nv Y<|zQ<|zQ<|zQ<|zM (al O O)<|zN O<|zQ<|zQ<|zQ<|zQ<|zM (al O O)<|zO O<|λa Y=>G2 ?_
 replace Y:=Y.p4 0 3 4 5 O
 refine ah λ_ G5=>aH (aI λw9 hxz=>?_)
 replace U:=U.grow hxz
 refine aJ (k:=0) 6 [5] ?_
 refine wlm Y O λa Y=>ax Y U call120 O (jk key _) λa w10 Y U=>wlm Y O λa Y=>?_
 rcases Decidable.em ((key.length:Int)=32) with hb6|hb6
 ·rw[zU hb6] at Y
  refine nv Y<|zP (au O)<|zM (ay O O)<|zN O<|λa Y=>ab<|dk (k:=6) 11 [7,10] (Y.p10 0 3 4 5 20 21 22 23 24 25 O) λa Y=>?_
  replace Y:=Y.p15 26 27 28 29 30 0 3 4 5 20 21 22 23 24 25 O
  refine aJ (k:=11) 14 [13] ?_
  refine nv Y<|zQ<|zM (al O O)<|zO O<|λa Y=>ab<|aR<|G5 ?_
  replace Y:=Y.p1 4 O
  replace U:=U.k0 0 O
  refine aq<|am Y results113 (ae O ag) ?_
  refine⟨?_,U.ext⟩
  simp only[retv]
  refine Ap Value.bool ?_
  unfold genHd
  first|(rw[hb6]; simp; done)|(rw[hb1]; simp; done)|(rw[show decide (hd.root.length=32)=false from zW om]; simp; done)|(rw[show decide (key.length=32)=false from zW om]; rfl)
 rw[zW hb6] at Y
 refine nv Y<|zQ<|zM (al O O)<|zN O<|λa Y=>ab<|dk (k:=6) 11 [7,10] (Y.p10 0 3 4 5 20 21 22 23 24 25 O) λa Y=>?_
 replace Y:=Y.p15 26 27 28 29 30 0 3 4 5 20 21 22 23 24 25 O
 refine aJ (k:=11) 14 [13] ?_
 refine nv Y<|zQ<|zM (al O O)<|zO O<|λa Y=>ab<|aR<|G5 ?_
 replace Y:=Y.p1 4 O
 replace U:=U.k0 0 O
 refine aq<|am Y results113 (ae O ag) ?_
 refine⟨?_,U.ext⟩
 simp only[retv]
 refine Ap Value.bool ?_
 unfold genHd
 first|(rw[hb6]; simp; done)|(rw[hb1]; simp; done)|(rw[show decide (hd.root.length=32)=false from zW om]; simp; done)|(rw[show decide (key.length=32)=false from zW om]; rfl)
theorem oN {n:Int}:∀{l:List Int} {p:Int} {k:Nat},ascI n p l=true→k<l.length→p<l.getD k 0∧l.getD k 0<n∧(0<k→l.getD (k- 1) 0<l.getD k 0)
 | [],p,k,h,hk=>absurd hk (Nat.not_lt_zero _)
 | i::l,p,k,h,hk=>by
  rw[ascI,zT,zT,zZ,zZ] at h
  cases k with
  | zero=>exact⟨h.1.1,h.1.2,λh=>absurd h (Bm 0)⟩
  | succ k=>
   obtain⟨h1,h2,h3⟩:=oN (k:=k) h.2 Dn
   refine⟨by show p<l.getD k 0; omega,h2,λ_=>?_⟩
   show (i::l).getD k 0<l.getD k 0
   cases k with
   | zero=>exact h1
   | succ k=>exact h3 (Nat.succ_pos _)
theorem gP {es:List By} {n k i:Nat} {ix:List Int} {L:List Itw} {pv:Value} (hL:itsM L=showIs sha es n (ix.take k)) (hk:k<ix.length) (hi:ix.getD k 0=(i:Int)):
  itsM (L++[⟨⟨(i:Int),es.getD i [],proofH sha (es.take n) i⟩,pv⟩])=showIs sha es n (ix.take (k+1)):=by
 rw[cH 0 hk,showIs,AH,←showIs,←hL,itsM,AH,hi]
 simp only[itsM,AP,Bp,itmAt,AL]
theorem tc {es:List By} {n:Nat} {ix:List Int} {L:List Itw} (hL:itsM L=showIs sha es n ix) (hn:n≤60):∀x∈L,x.m.pf.length≤6:=by
 intro x hx
 have hm:x.m∈showIs sha es n ix:=by rw[←hL]; exact AB.2 ⟨x,hx,rfl⟩
 obtain⟨i,_,he⟩:=ed hm
 rw[he]
 exact m7 _ (es.take n) i.toNat 6 O Cp
def prevX (L:List Itw):Nat→Int
 | 0=> -1
 | k+1=>(L.getD k Itw.z).m.ix
theorem tx {L:List Itw} {k:Nat} (h:0<k):prevX L k=(L.getD (k- 1) Itw.z).m.ix:=by
 cases k with
 | zero=>exact absurd h (Bm 0)
 | succ k=>rfl
section
variable {L:List Itw} {k:Nat} {root:By} {n p:Int} {x:Itw}
theorem fR (hk:k<L.length) (hx:L.getD k Itw.z=x):chkIs sha root n p ((itsM L).drop k)=(decide (p<x.m.ix)&&decide (x.m.e.length≤1000)&&cO sha root n x.m.ix x.m.e x.m.pf&&chkIs sha root n x.m.ix ((itsM L).drop (k+1))):=by
 rw[tY hk,hx,chkIs]
theorem o6 (hk:k<L.length) (hx:L.getD k Itw.z=x) (h1:p<x.m.ix) (h2:x.m.e.length≤1000) (h3:cO sha root n x.m.ix x.m.e x.m.pf=true):chkIs sha root n p ((itsM L).drop k)=chkIs sha root n (prevX L (k+1)) ((itsM L).drop (k+1)):=by
 rw[fR hk hx,zU h1,zU h2,h3,prevX,hx]; rfl
end
theorem nM (key:By) (n:Nat) (hd:Hd) (lv:Value) (ix:List Int) (c:Int) (ev:Value) (es:List By) (w0:World) (hev:SlAt w0 ev 1 (es.map λs=>[sv s])) (hlv:SlAt w0 lv 1 ((ix).map λn=>[jv n])) (hk32:key.length=32) (hr:regOk c es=true) (hn:n≤es.length) (hix:ascI (n:Int) (-1) ix=true) (hil:ix.length≤1000) (hhd:hdOf sha key c es n=hd) (hk0:(blk 0 (kOf.map wv) 258).ok w0):
  Ret Tryz.prog 26 #[sv key,.agg #[jv c,ev],jv (n:Int),lv] w0 (MemR w0 (λx:Value × List Itw=>.tuple #[.agg #[jv hd.c,jv hd.n,sv hd.root,sv hd.tag,x.1],jv 0]) (λx=>[itsE x.1 x.2]) (λx=>itsM x.2=showIs sha es n ix)):=by
 obtain⟨hrc0,hrc1,hrl,hel⟩:=dB hr
 have hxb:=hlv.2.1
 simp only[zR,big] at hxb
 refine BI func26 O ntmps26 (lb O) λa Y U=>?_
 refine aa λ_ G1=>aS Y U O [jv c,ev] O λa w1 Y U=>aE Y U (zeroValue50 _) [jv 0,jv 0,.string (⟨#[]⟩),.string (⟨#[]⟩),.slice none 0 0] O λa w2 Y U=>wla Y O λa Y=>G1<|aa λ_ G2=>?_
 refine nv Y<|zN O<|zM (ap (U.g 1 O) O (isAgg75 _) (sizeOf75 _))<|zN O<|λa Y=>ax Y U call73 O (ni key n hd c ev es _ (U.arg hev) hk32 hr hn hhd (U.keepb hk0)) λa w3 Y U=>nv Y<|zN O<|zM (ak O O)<|zM (ak O O)<|λa Y=>aE Y U (zeroValue47 _) [jv 0,jv 0,.string (⟨#[]⟩),.string (⟨#[]⟩)] O λa w4 Y U=>aB 0 Y U [jv hd.c,jv hd.n,sv hd.root,sv hd.tag] O (sizeOf47 _) λa w5 Y U=>wla Y O λa Y=>G2 ?_
 refine ah λ_ G3=>aa λ_ G4=>nv (Y.p7 2 3 5 8 9 10 11 O)<|zN O<|zM ((v_ne O O).asb (b':=false) O)<|λa Y=>G4<|aG Y O ?_
 refine ar<|G3<|aa λ_ G5=>nv Y<|zM (ap (U.g 0 O) O (isAgg47 _) (sizeOf47 _))<|zM (aV (v:=.agg #[jv hd.c,jv hd.n,sv hd.root,sv hd.tag,.slice none 0 0]) O kr)<|λa Y=>aE Y U (zeroValue50 _) [jv 0,jv 0,.string (⟨#[]⟩),.string (⟨#[]⟩),.slice none 0 0] O λa w6 Y U=>aB 0 Y U [jv hd.c,jv hd.n,sv hd.root,sv hd.tag,.slice none 0 0] O (sizeOf50 _) λa w7 Y U=>G5 ?_
 replace U:=U.k3 13 O
 refine ah λ_ G6=>aa λ_ G7=>nv (Y.p6 2 3 5 8 9 12 O)<|zN O<|zM ((aK (sT:=24) (U.arg hlv) O O (runUnderlying24 _)).asi (m':=(ix.length:Int)) B9)<|zN O<|λa Y=>G7<|aw ?_
 replace U:St No w0 [own (.slice none 0 0) 110 3 (([]).map Itw.cells),blk w5.hz [jv hd.c,jv hd.n,sv hd.root,sv hd.tag,.slice none 0 0] 50,blk w1.hz [jv 0,jv 0,.string (⟨#[]⟩),.string (⟨#[]⟩),.slice none 0 0] 50,blk w0.hz [jv c,ev] 75] w7:=U.nil_own
 replace U:St No w0 [pfsE ([]),own (.slice none 0 0) 110 3 (([]).map Itw.cells),blk w5.hz [jv hd.c,jv hd.n,sv hd.root,sv hd.tag,.slice none 0 0] 50,blk w1.hz [jv 0,jv 0,.string (⟨#[]⟩),.string (⟨#[]⟩),.slice none 0 0] 50,blk w0.hz [jv c,ev] 75] w7:=sI U
 refine aZ (λm a w=>∃(k:Nat) (vi:Value) (L:List Itw),m=ix.length- k∧(k≤ix.length)∧(itsM L=showIs sha es n (ix.take k))∧Fr 77 [(2,jv (n:Int)),(3,lv),(5,pq w0.hz),(8,pq w1.hz),(12,pq w5.hz),(30,lv),(31,jv (ix.length:Int)),(32,jv (k:Int))] [] a∧St No w0 [own vi 110 3 ((L).map Itw.cells),pfsE L,blk w5.hz [jv hd.c,jv hd.n,sv hd.root,sv hd.tag,vi] 50,blk w1.hz [jv 0,jv 0,.string (⟨#[]⟩),.string (⟨#[]⟩),.slice none 0 0] 50,blk w0.hz [jv c,ev] 75] w) _ ⟨0,.slice none 0 0,[],O,Ah _,O,Y.pick [2,3,5,8,12,30,31,32],U.select [1,0,2,3,4] de⟩ ?_
 rintro _ a w8 ⟨k,vi,L,rfl,hk,hL,Y,U⟩
 refine aa λ_ G8=>wlv Y (v_lt O O) λa Y=>G8<|ah λ_ G9=>?_
 refine az Y O (λhc1=>?_) (λhc1=>?_)
 ·have hkx:k<ix.length:=by omega
  refine ar<|G9<|ah λ_ G10=>aw ?_
  obtain⟨hia,hib,hic⟩:=oN hix (k:=k) hkx
  obtain⟨iq,hki⟩:∃iq:Nat,ix.getD k 0=(iq:Int):=⟨(ix.getD k 0).toNat,by omega⟩
  rw[hki] at hia hib hic
  refine aa λ_ G11=>nv Y<|zN O<|zM ((ai (i:=(k:Int)) (sT:=24) (U.arg hlv) O O (runUnderlying24 _) (sizeOf3 _) om BQ).as (v':=slAddr lv (k*1)) O)<|zM (aA (u:=jv (iq:Int)) (i:=k) (j:=0) (U.arg hlv) BQ O (isAgg3 _) Cw)<|zO O<|zO O<|λa Y=>G11<|aa λ_ G12=>?_
  refine nv Y<|zM (ac (v:=po w0.hz 1) O kr)<|zM (ld U 4 O O (isAgg44 _) O)<|zN O<|zM (cd (l:=0) (h:=n) (U.arg hev) O O O underlying44 kr (.inl ⟨O,O⟩) (.inr O) (Ah _) B5)<|zN O<|λa Y=>bf Y U call75 O (uW (cut ev 1 0 n (slCap ev)) (es.take n) iq _ ((U.arg hev).cut0 (h:=n) BZ) Cp Cp (λs h=>AD (hel _ (AF h)) de) (U.keepb hk0)) λa w9 x3 hp Y U=>?_
  revert x3 hp Y U; rintro pv2 hp Y U
  clear hp
  replace U:=U.n6 O
  refine nv Y<|zN O<|zM (ak O O)<|zM (ak O O)<|zO O<|zO O<|λa Y=>G12 ?_
  refine ah λ_ G13=>aa λ_ G14=>nv (Y.p12 2 3 5 8 12 30 31 32 13 14 15 16 O)<|zN O<|zM ((v_ne O O).asb (b':=false) O)<|zN O<|zP (au O)<|zP (v_gt O O)<|zP (au O)<|λa Y=>?_
  rcases Decidable.em (0<(k:Int)) with hb4|hb4
  ·rw[zU hb4] at Y
   have hic:=hic om
   refine nv Y<|zP (au O)<|zP (au O)<|zP (au O)<|zP (bJ O O ⟨om,om⟩)<|zP ((ai (i:=(k:Int)- 1) (sT:=24) (U.arg hlv) O O (runUnderlying24 _) (sizeOf3 _) om BQ).as (v':=slAddr lv ((k- 1)*1)) Cr)<|zP (aA (u:=jv (ix.getD (k- 1) 0)) (i:=(k- 1)) (j:=0) (U.arg hlv) BQ O (isAgg3 _) Ca)<|zP ((v_le O O).asb (b':=false) CI)<|zP (ay O O)<|zM (al O O)<|λa Y=>G14 ?_
   replace Y:=Y.p11 2 3 5 8 12 30 31 32 14 15 60 O
   refine aG Y O ?_
   refine ar<|G13<|aH (aI λw10 hxz=>?_)
   replace U:=U.grow hxz
   refine aQ (k:=0) 11 [1,10] Y ?_
   replace Y:=Y.p11 2 3 5 8 12 30 31 32 14 15 60 O
   refine bn [10] (λi=>match i with|10=>pm (λb:Nat=>.slice (some ⟨b,0,none⟩) 1 1) (λb=>[own (.slice (some ⟨b,0,none⟩) 1 1) 110 3 [[jv (iq:Int),sv ((es).getD iq []),pv2]]]) (λ_=>True)|_=>λ_ _=>False) 11 [[],[0],[],[],[3],[],[4,5],[6],[],[2,7,8],[9]] [po w5.hz 4,vi,jv (iq:Int),po w0.hz 1,ev,jv (iq:Int),slAddr ev (iq*1),sv ((es).getD iq []),pv2,.agg #[jv (iq:Int),sv ((es).getD iq []),pv2],undef] Y U ?_ ?_ ?_
   ·exact BO<|hqv (ac (v:=po w5.hz 4) rfl kr)<|hqw (λU=>ld U 3 rfl rfl (isAgg48 _) rfl)<|hqv (au rfl)<|hqv (ac (v:=po w0.hz 1) rfl kr)<|hqw (λU=>ld U 5 rfl rfl (isAgg44 _) rfl)<|hqv (au rfl)<|hqw (λU=>(ai (i:=(iq:Int)) (sT:=44) (U.arg hev) rfl rfl (runUnderlying44 _) (sizeOf9 _) om BQ).as (v':=slAddr ev (iq*1)) CC)<|hqw (λU=>aA (u:=sv ((es).getD iq [])) (i:=iq) (j:=0) (U.arg hev) BQ rfl (isAgg9 _) CQ)<|hqv (au rfl)<|hqw (λU=>aV (v:=.agg #[jv (iq:Int),sv ((es).getD iq []),pv2]) rfl Cz)<|BM (λh=>absurd sm h)<|BN
   ·intro i hi
    simp only[zY,Ab,As] at hi
    subst hi
    ·intro w U
     exact bP (E:=110) (sz:=3) O [[jv (iq:Int),sv ((es).getD iq []),pv2]] (λ_=>by obtain⟨_,_,_,e0_⟩:=cT (U.ow 0 rfl); rw[e0_]; kernel_rfl) sm O de
   clear Y U
   rintro _ _ ⟨b5,rfl, -,rfl⟩ a w11 Y U
   replace Y:=Y.p10 63 72 2 3 5 8 12 30 31 32 O
   replace U:=U.n7 O
   refine ab<|aJ (k:=11) 14 [13] ?_
   refine aY (i:=2) (sT:=48) (inf:=Tryz.t110) (z:=.agg #[jv 0,.string (⟨#[]⟩),.slice none 0 0]) (b:=0) (off:=0) (m:=0) (c:=0) O O O (U.ow 0 O) sm underlying48 O O O O de Cq BW BW de Y U λa w12 s6 Y U _=>?_
   replace U:St No w0 [own (.slice (some ⟨b5,0,none⟩) 1 1) 110 3 ([[jv (iq:Int),sv ((es).getD iq []),pv2]]),own pv2 9 1 ((proofH sha (es.take n) iq).map λs=>[sv s]),own s6 110 3 (((L++[(⟨⟨(iq:Int),es.getD iq [],proofH sha (es.take n) iq⟩,pv2⟩:Itw)])).map Itw.cells),pfsE L,blk w5.hz [jv hd.c,jv hd.n,sv hd.root,sv hd.tag,vi] 50,blk w1.hz [jv 0,jv 0,.string (⟨#[]⟩),.string (⟨#[]⟩),.slice none 0 0] 50,blk w0.hz [jv c,ev] 75] w12:=by rw[show (((L++[(⟨⟨(iq:Int),es.getD iq [],proofH sha (es.take n) iq⟩,pv2⟩:Itw)])).map Itw.cells)=((L).map Itw.cells)++([[jv (iq:Int),sv ((es).getD iq []),pv2]]) from by rw[AH]; rfl]; exact U
   refine wlv Y (ac (v:=po w5.hz 4) O kr) λa Y=>cb 4 Y U (U.ow 2 O) O O O (sizeOf48 _) (lb O) (ds:=[jv hd.c,jv hd.n,sv hd.root,sv hd.tag,s6]) O O λa w13 Y U=>ab<|aR<|G10 ?_
   replace U:=U.k6 126 O
   refine aj<|nv (Y.p8 2 3 5 8 12 30 31 32 O)<|zM (aL O O ⟨om,om⟩)<|zN O<|λa Y=>ab ?_
   replace U:=U.s6 [0,2,1,3,4,5] de rfl
   replace U:St No w0 [pfsE (L++[(⟨⟨(iq:Int),es.getD iq [],proofH sha (es.take n) iq⟩,pv2⟩:Itw)]),own s6 110 3 (((L++[(⟨⟨(iq:Int),es.getD iq [],proofH sha (es.take n) iq⟩,pv2⟩:Itw)])).map Itw.cells),blk w5.hz [jv hd.c,jv hd.n,sv hd.root,sv hd.tag,s6] 50,blk w1.hz [jv 0,jv 0,.string (⟨#[]⟩),.string (⟨#[]⟩),.slice none 0 0] 50,blk w0.hz [jv c,ev] 75] w13:=jc ⟨⟨(iq:Int),es.getD iq [],proofH sha (es.take n) iq⟩,pv2⟩ U
   refine⟨_,?_,k+1,s6,(L++[(⟨⟨(iq:Int),es.getD iq [],proofH sha (es.take n) iq⟩,pv2⟩:Itw)]),O,om,(gP hL hkx hki),Y.pick [2,3,5,8,12,30,31,32],U.select [1,0,2,3,4] de⟩
   omega
  rw[zW hb4] at Y
  refine nv Y<|zQ<|zQ<|zQ<|zQ<|zQ<|zQ<|zQ<|zP (al O O)<|zM (al O O)<|λa Y=>G14 ?_
  replace Y:=Y.p11 2 3 5 8 12 30 31 32 14 15 60 O
  refine aG Y O ?_
  refine ar<|G13<|aH (aI λw14 hxz=>?_)
  replace U:=U.grow hxz
  refine aQ (k:=0) 11 [1,10] Y ?_
  replace Y:=Y.p11 2 3 5 8 12 30 31 32 14 15 60 O
  refine bn [10] (λi=>match i with|10=>pm (λb:Nat=>.slice (some ⟨b,0,none⟩) 1 1) (λb=>[own (.slice (some ⟨b,0,none⟩) 1 1) 110 3 [[jv (iq:Int),sv ((es).getD iq []),pv2]]]) (λ_=>True)|_=>λ_ _=>False) 11 [[],[0],[],[],[3],[],[4,5],[6],[],[2,7,8],[9]] [po w5.hz 4,vi,jv (iq:Int),po w0.hz 1,ev,jv (iq:Int),slAddr ev (iq*1),sv ((es).getD iq []),pv2,.agg #[jv (iq:Int),sv ((es).getD iq []),pv2],undef] Y U ?_ ?_ ?_
  ·exact BO<|hqv (ac (v:=po w5.hz 4) rfl kr)<|hqw (λU=>ld U 3 rfl rfl (isAgg48 _) rfl)<|hqv (au rfl)<|hqv (ac (v:=po w0.hz 1) rfl kr)<|hqw (λU=>ld U 5 rfl rfl (isAgg44 _) rfl)<|hqv (au rfl)<|hqw (λU=>(ai (i:=(iq:Int)) (sT:=44) (U.arg hev) rfl rfl (runUnderlying44 _) (sizeOf9 _) om BQ).as (v':=slAddr ev (iq*1)) CC)<|hqw (λU=>aA (u:=sv ((es).getD iq [])) (i:=iq) (j:=0) (U.arg hev) BQ rfl (isAgg9 _) CQ)<|hqv (au rfl)<|hqw (λU=>aV (v:=.agg #[jv (iq:Int),sv ((es).getD iq []),pv2]) rfl Cz)<|BM (λh=>absurd sm h)<|BN
  ·intro i hi
   simp only[zY,Ab,As] at hi
   subst hi
   ·intro w U
    exact bP (E:=110) (sz:=3) O [[jv (iq:Int),sv ((es).getD iq []),pv2]] (λ_=>by obtain⟨_,_,_,e0_⟩:=cT (U.ow 0 rfl); rw[e0_]; kernel_rfl) sm O de
  clear Y U
  rintro _ _ ⟨b7,rfl, -,rfl⟩ a w15 Y U
  replace Y:=Y.p10 63 72 2 3 5 8 12 30 31 32 O
  replace U:=U.n7 O
  refine ab<|aJ (k:=11) 14 [13] ?_
  refine aY (i:=2) (sT:=48) (inf:=Tryz.t110) (z:=.agg #[jv 0,.string (⟨#[]⟩),.slice none 0 0]) (b:=0) (off:=0) (m:=0) (c:=0) O O O (U.ow 0 O) sm underlying48 O O O O de Cq BW BW de Y U λa w16 s8 Y U _=>?_
  replace U:St No w0 [own (.slice (some ⟨b7,0,none⟩) 1 1) 110 3 ([[jv (iq:Int),sv ((es).getD iq []),pv2]]),own pv2 9 1 ((proofH sha (es.take n) iq).map λs=>[sv s]),own s8 110 3 (((L++[(⟨⟨(iq:Int),es.getD iq [],proofH sha (es.take n) iq⟩,pv2⟩:Itw)])).map Itw.cells),pfsE L,blk w5.hz [jv hd.c,jv hd.n,sv hd.root,sv hd.tag,vi] 50,blk w1.hz [jv 0,jv 0,.string (⟨#[]⟩),.string (⟨#[]⟩),.slice none 0 0] 50,blk w0.hz [jv c,ev] 75] w16:=by rw[show (((L++[(⟨⟨(iq:Int),es.getD iq [],proofH sha (es.take n) iq⟩,pv2⟩:Itw)])).map Itw.cells)=((L).map Itw.cells)++([[jv (iq:Int),sv ((es).getD iq []),pv2]]) from by rw[AH]; rfl]; exact U
  refine wlv Y (ac (v:=po w5.hz 4) O kr) λa Y=>cb 4 Y U (U.ow 2 O) O O O (sizeOf48 _) (lb O) (ds:=[jv hd.c,jv hd.n,sv hd.root,sv hd.tag,s8]) O O λa w17 Y U=>ab<|aR<|G10 ?_
  replace U:=U.k6 126 O
  refine aj<|nv (Y.p8 2 3 5 8 12 30 31 32 O)<|zM (aL O O ⟨om,om⟩)<|zN O<|λa Y=>ab ?_
  replace U:=U.s6 [0,2,1,3,4,5] de rfl
  replace U:St No w0 [pfsE (L++[(⟨⟨(iq:Int),es.getD iq [],proofH sha (es.take n) iq⟩,pv2⟩:Itw)]),own s8 110 3 (((L++[(⟨⟨(iq:Int),es.getD iq [],proofH sha (es.take n) iq⟩,pv2⟩:Itw)])).map Itw.cells),blk w5.hz [jv hd.c,jv hd.n,sv hd.root,sv hd.tag,s8] 50,blk w1.hz [jv 0,jv 0,.string (⟨#[]⟩),.string (⟨#[]⟩),.slice none 0 0] 50,blk w0.hz [jv c,ev] 75] w17:=jc ⟨⟨(iq:Int),es.getD iq [],proofH sha (es.take n) iq⟩,pv2⟩ U
  refine⟨_,?_,k+1,s8,(L++[(⟨⟨(iq:Int),es.getD iq [],proofH sha (es.take n) iq⟩,pv2⟩:Itw)]),O,om,(gP hL hkx hki),Y.pick [2,3,5,8,12,30,31,32],U.select [1,0,2,3,4] de⟩
  omega
 obtain rfl:k=ix.length:=by omega
 rw[List.take_length] at hL
 refine aP<|G6<|aa λ_ G15=>wlv Y (ap (U.g 2 O) O (isAgg50 _) (sizeOf50 _)) λa Y=>bj (us:=[jv hd.c,jv hd.n,sv hd.root,sv hd.tag,vi]) 3 Y U O O O (sizeOf50 _) CU (lb O) (ds:=[jv hd.c,jv hd.n,sv hd.root,sv hd.tag,vi]) O O λa w18 Y U=>?_
 refine wla Y O λa Y=>G15 ?_
 replace Y:=Y.p2 8 9 O
 replace U:=U.k3 11 O
 refine aq<|am Y results26 (ao O (bd (U.g 2 O) (isAgg50 _) (sizeOf50 _)) (ae O ag)) ?_
 replace U:=U.s3 [0,1,2] de rfl
 replace U:St No w0 [itsE vi L,blk w1.hz [jv hd.c,jv hd.n,sv hd.root,sv hd.tag,vi] 50] w18:=wT U
 exact⟨(vi,L),O,hL,U.ext,St.out (E:=[itsE vi L]) (H:=[]) (U.select [0] de)⟩
theorem eV (key:By) (hd:Hd) (iv:Value) (L:List Itw) (w0:World) (hiv:ItsAt w0 iv L) (hpf:∀x∈L,x.m.pf.length≤1000) (hk0:(blk 0 (kOf.map wv) 258).ok w0):
  Ret Tryz.prog 52 #[sv key,.agg #[jv hd.c,jv hd.n,sv hd.root,sv hd.tag,iv]] w0 λv w=>v=.bool (checkP sha key hd (itsM L))∧Ext No w0 w:=by
 have hxb:=hiv.len
 refine BF func52 O ntmps52 (lb O) λa Y U=>?_
 refine aa λ_ G1=>aS Y U O [jv hd.c,jv hd.n,sv hd.root,sv hd.tag,iv] O λa w1 Y U=>wla Y O λa Y=>G1<|ah λ_ G2=>?_
 refine aa λ_ G3=>nv Y<|zN O<|zM (ac (v:=pq w0.hz) O kr)<|zM (bW (ds:=[jv hd.c,jv hd.n,sv hd.root,sv hd.tag]) (U.g 0 O) O (isAgg47 _) (sizeOf47 _) O)<|λa Y=>ax Y U call113 O (xm key hd _ (U.keepb hk0)) λa w2 Y U=>wlv Y (bB O) λa Y=>G3 ?_
 replace Y:=Y.p3 3 4 12 O
 refine bF Y O (λhc1=>?_) (λhc1=>?_)
 ·try simp only[qz] at hc1
  have hgn:genHd sha key hd=false:=by simpa using hc1
  refine aa λ_ G4=>wla Y O λa Y=>G4<|aq ?_
  refine am Y results52 (ae O ag) ?_
  refine⟨?_,U.ext⟩
  simp only[retv]
  refine Ap Value.bool ?_
  unfold checkP
  rw[hgn]; rfl
 try simp only[qz] at hc1
 have hgn:genHd sha key hd=true:=by simpa using hc1
 have hgb:hd.n≤60:=by have h:=hgn; unfold genHd inB at h; simp only[zT,zZ] at h; omega
 refine ar<|G2<|ah λ_ G5=>aa λ_ G6=>nv Y<|zM (ac (v:=po w0.hz 4) O kr)<|zM (ld U 0 O O (isAgg48 _) O)<|zM ((aK (sT:=48) (U.arg hiv.1) O O (runUnderlying48 _)).asi (m':=(L.length:Int)) B9)<|zN O<|λa Y=>G6<|aw ?_
 refine aZ (λm a w=>∃(k:Nat),m=L.length- k∧(k≤L.length)∧(chkIs sha hd.root hd.n (-1) (itsM L)=chkIs sha hd.root hd.n (prevX L k) ((itsM L).drop k))∧Fr 60 [(3,pq w0.hz),(14,iv),(15,jv (L.length:Int)),(16,jv (k:Int))] [] a∧St No w0 [blk w0.hz [jv hd.c,jv hd.n,sv hd.root,sv hd.tag,iv] 50] w) _ ⟨0,O,Ah _,O,Y.pick [3,14,15,16],U.select [0] de⟩ ?_
 rintro _ a w3 ⟨k,rfl,hk,hs,Y,U⟩
 refine aa λ_ G7=>wlv Y (v_lt O O) λa Y=>G7<|ah λ_ G8=>?_
 refine az Y O (λhc2=>?_) (λhc2=>?_)
 ·have hkx:k<L.length:=by omega
  refine ar<|G8<|ah λ_ G9=>aw ?_
  obtain⟨⟨⟨ix,e,pf⟩,pv⟩,hx⟩:∃x,L.getD k Itw.z=x:=⟨_,rfl⟩
  have hxm:=bC (d:=Itw.z) hkx
  rw[hx] at hxm
  have hpv:SlAt w0 pv 1 (pf.map λs=>[sv s]):=hiv.2 _ hxm
  have hpl:pf.length≤1000:=hpf _ hxm
  refine aa λ_ G10=>nv Y<|zN O<|zM ((ai (i:=(k:Int)) (sT:=48) (U.arg hiv.1) O O (runUnderlying48 _) (sizeOf110 _) om BQ).as (v':=slAddr iv (k*3)) O)<|zM ((bN (U.arg hiv.1) (i:=k) BQ O (isAgg110 _) (sizeOf110 _)).as (v':=.agg #[jv ix,sv e,pv]) (by rw[aX Itw.z,hx]; rfl))<|λa Y=>aE Y U (zeroValue110 _) [jv 0,.string (⟨#[]⟩),.slice none 0 0] O λa w4 Y U=>wla Y O λa Y=>bj (us:=[jv ix,sv e,pv]) 0 Y U O O O (sizeOf110 _) (by intro z hz; simp only[zY,Ab,As] at hz; rcases hz with rfl|rfl|rfl<;>first|rfl|exact SlAt.one (U.arg hpv)) (lb O) (ds:=[jv ix,sv e,pv]) O O λa w5 Y U=>?_
  refine G10<|ah λ_ G11=>?_
  refine aH (aI λw6 hxz=>?_)
  replace U:=U.grow hxz
  refine aJ (k:=0) 3 [2] ?_
  refine nv Y<|zN O<|zM (v_eq O O)<|zN O<|λa Y=>ab ?_
  rcases Decidable.em ((k:Int)=0) with hb3|hb3
  ·rw[zU hb3] at Y
   have hk0e:k=0:=by omega
   refine dk (k:=3) 12 [9,11] (Y.p12 3 14 15 16 18 19 20 6 5 21 22 23 O) λa Y=>?_
   replace Y:Fr 60 [(24,undef),(25,undef),(26,undef),(27,undef),(28,undef),(29,undef),(30,undef),(31,undef),(32,undef),(3,pq w0.hz),(14,iv),(15,jv (L.length:Int)),(16,jv (k:Int)),(18,jv (k:Int)),(19,slAddr iv (k*3)),(20,.agg #[jv ix,sv e,pv]),(6,pq w3.hz),(5,jv (k:Int)),(21,jv (k:Int)),(22,.bool true),(23,.bool true)] [] a:=Y
   refine aJ (k:=12) 15 [14] ?_
   refine nv Y<|zQ<|zM (ay O O)<|zO O<|λa Y=>ab<|aR<|G11 ?_
   refine aa λ_ G12=>nv (Y.p6 3 14 15 16 6 7 O)<|zN O<|zM ((bB O).asb (b':=false) O)<|zN O<|zP (ac (v:=po w3.hz 1) O kr)<|zP (ld U 0 O O (isAgg9 _) O)<|zP (bp O O (runUnderlying9 _))<|zP (v_gt O O)<|zM (al O O)<|zN O<|λa Y=>?_
   rcases Decidable.em (1000<(e.length:Int)) with hb4|hb4
   ·rw[zU hb4] at Y
    have hbad:chkIs sha hd.root hd.n (-1) (itsM L)=false:=by rw[hs,fR hkx hx]; rw[zW (show ¬e.length≤1000 by omega),AY]; rfl
    refine nv Y<|zQ<|zQ<|zQ<|zQ<|zQ<|zQ<|zQ<|zQ<|zQ<|zQ<|zQ<|zQ<|zQ<|zQ<|zM (ay O O)<|λa Y=>G12 ?_
    replace Y:=Y.p5 3 14 15 16 58 O
    replace U:=U.k1 2 O
    refine aM Y O ?_
    refine aa λ_ G13=>wla Y O λa Y=>G13<|aq ?_
    refine am Y results52 (ae O ag) ?_
    refine⟨?_,U.ext⟩
    simp only[retv]
    refine Ap Value.bool ?_
    unfold checkP
    rw[hbad,AY]
   rw[zW hb4] at Y
   have hel:e.length≤1000:=by omega
   refine nv Y<|zP (ac (v:=pq w0.hz) O kr)<|zP (ac (v:=po w0.hz 2) O kr)<|zP (ld U 1 O O (isAgg9 _) O)<|zP (ac (v:=pq w0.hz) O kr)<|zP (ac (v:=po w0.hz 1) O kr)<|zP (ld U 1 O O (isAgg3 _) O)<|zP (ac (v:=pq w3.hz) O kr)<|zP (ld U 0 O O (isAgg3 _) O)<|zP (ac (v:=po w3.hz 1) O kr)<|zP (ld U 0 O O (isAgg9 _) O)<|zP (ac (v:=po w3.hz 2) O kr)<|zP (ld U 0 O O (isAgg44 _) O)<|λa Y=>aF Y U call114 O (mX hd.root e hd.n ix pv pf _ (U.arg hpv) om om om (U.keepb hk0)) λa w7 Y U=>nv Y<|zP (bB O)<|zM (al O O)<|λa Y=>G12 ?_
   replace Y:=Y.p5 3 14 15 16 58 O
   replace U:=U.k1 2 O
   refine bF Y O (λhc5=>?_) (λhc5=>?_)
   ·try simp only[qz] at hc5
    have hvf:cO sha hd.root hd.n ix e pf=false:=by simpa using hc5
    have hbad:chkIs sha hd.root hd.n (-1) (itsM L)=false:=by rw[hs,fR hkx hx]; rw[show cO sha hd.root hd.n (⟨⟨ix,e,pf⟩,pv⟩:Itw).m.ix (⟨⟨ix,e,pf⟩,pv⟩:Itw).m.e (⟨⟨ix,e,pf⟩,pv⟩:Itw).m.pf=false from hvf,AY]; rfl
    refine aa λ_ G14=>wla Y O λa Y=>G14<|aq ?_
    refine am Y results52 (ae O ag) ?_
    refine⟨?_,U.ext⟩
    simp only[retv]
    refine Ap Value.bool ?_
    unfold checkP
    rw[hbad,AY]
   try simp only[qz] at hc5
   have hvf:cO sha hd.root hd.n ix e pf=true:=by simpa using hc5
   have hgo:prevX L k<ix:=by rw[hk0e]; have:=(ju hvf).1; show-1<ix; omega
   refine ar<|G9<|aj<|nv Y<|zM (aL O O ⟨om,om⟩)<|zN O<|λa Y=>ab ?_
   refine⟨_,?_,k+1,O,om,(by rw[hs]; exact o6 hkx hx hgo hel hvf),Y.pick [3,14,15,16],U.select [0] de⟩
   omega
  rw[zW hb3] at Y
  have hpvx:=tx (L:=L) (k:=k) om
  refine aQ (k:=3) 12 [9,11] Y ?_
  replace Y:=Y.p12 3 14 15 16 18 19 20 6 5 21 22 23 O
  refine bI 9 Y U<|pl_v (ac (v:=po w0.hz 4) O kr)<|pl_w (λU=>ld U 1 O O (isAgg48 _) O)<|pl_m O<|pl_v (bJ O O ⟨om,om⟩)<|pl_w (λU=>(ai (i:=(k:Int)- 1) (sT:=48) (U.arg hiv.1) O O (runUnderlying48 _) (sizeOf110 _) om BQ).as (v':=slAddr iv ((k- 1)*3)) Cr)<|pl_w (λU=>bA (k:=(k- 1)*3) (j:=0) (U.arg hiv.1) (i:=(k- 1)) BQ O (λ_ _=>by kernel_rfl))<|pl_w (λU=>aA (u:=jv ((L.getD (k- 1) Itw.z).m.ix)) (i:=(k- 1)) (j:=0) (U.arg hiv.1) BQ O (isAgg3 _) (by rw[aX Itw.z]; rfl)) ?_
  refine pl_v (ac (v:=pq w3.hz) O kr)<|pl_w (λU=>ld U 0 O O (isAgg3 _) O) λa w8 Y U=>?_
  replace Y:=Y.p8 3 14 15 16 6 23 30 32 O
  refine ab<|aJ (k:=12) 15 [14] ?_
  refine nv Y<|zP (v_lt O O)<|zM (al O O)<|zO O<|λa Y=>ab<|aR<|G11<|aa λ_ G15=>nv Y<|zN O<|zM (bB O)<|zN O<|λa Y=>?_
  rcases (Decidable.em ((L.getD (k- 1) Itw.z).m.ix<ix)).symm with hb6|hb6
  ·rw[zW hb6] at Y
   have hbad:chkIs sha hd.root hd.n (-1) (itsM L)=false:=by rw[hs,fR hkx hx]; rw[zW (by rw[hpvx]; show ¬_<ix; omega)]; rfl
   refine nv Y<|zQ<|zQ<|zQ<|zQ<|zM (ay O O)<|zN O<|zQ<|zQ<|zQ<|zQ<|zQ<|zQ<|zQ<|zQ<|zQ<|zQ<|zQ<|zQ<|zQ<|zQ<|zM (ay O O)<|λa Y=>G15 ?_
   replace Y:=Y.p5 3 14 15 16 58 O
   replace U:=U.k1 2 O
   refine aM Y O ?_
   refine aa λ_ G16=>wla Y O λa Y=>G16<|aq ?_
   refine am Y results52 (ae O ag) ?_
   refine⟨?_,U.ext⟩
   simp only[retv]
   refine Ap Value.bool ?_
   unfold checkP
   rw[hbad,AY]
  rw[zU hb6] at Y
  have hgo:prevX L k<ix:=by rw[hpvx]; omega
  refine nv Y<|zP (ac (v:=po w3.hz 1) O kr)<|zP (ld U 0 O O (isAgg9 _) O)<|zP (bp O O (runUnderlying9 _))<|zP (v_gt O O)<|zM (al O O)<|zN O<|λa Y=>?_
  rcases Decidable.em (1000<(e.length:Int)) with hb7|hb7
  ·rw[zU hb7] at Y
   have hbad:chkIs sha hd.root hd.n (-1) (itsM L)=false:=by rw[hs,fR hkx hx]; rw[zW (show ¬e.length≤1000 by omega),AY]; rfl
   refine nv Y<|zQ<|zQ<|zQ<|zQ<|zQ<|zQ<|zQ<|zQ<|zQ<|zQ<|zQ<|zQ<|zQ<|zQ<|zM (ay O O)<|λa Y=>G15 ?_
   replace Y:=Y.p5 3 14 15 16 58 O
   replace U:=U.k1 2 O
   refine aM Y O ?_
   refine aa λ_ G17=>wla Y O λa Y=>G17<|aq ?_
   refine am Y results52 (ae O ag) ?_
   refine⟨?_,U.ext⟩
   simp only[retv]
   refine Ap Value.bool ?_
   unfold checkP
   rw[hbad,AY]
  rw[zW hb7] at Y
  have hel:e.length≤1000:=by omega
  refine nv Y<|zP (ac (v:=pq w0.hz) O kr)<|zP (ac (v:=po w0.hz 2) O kr)<|zP (ld U 1 O O (isAgg9 _) O)<|zP (ac (v:=pq w0.hz) O kr)<|zP (ac (v:=po w0.hz 1) O kr)<|zP (ld U 1 O O (isAgg3 _) O)<|zP (ac (v:=pq w3.hz) O kr)<|zP (ld U 0 O O (isAgg3 _) O)<|zP (ac (v:=po w3.hz 1) O kr)<|zP (ld U 0 O O (isAgg9 _) O)<|zP (ac (v:=po w3.hz 2) O kr)<|zP (ld U 0 O O (isAgg44 _) O)<|λa Y=>aF Y U call114 O (mX hd.root e hd.n ix pv pf _ (U.arg hpv) om om om (U.keepb hk0)) λa w9 Y U=>nv Y<|zP (bB O)<|zM (al O O)<|λa Y=>G15 ?_
  replace Y:=Y.p5 3 14 15 16 58 O
  replace U:=U.k1 2 O
  refine bF Y O (λhc8=>?_) (λhc8=>?_)
  ·try simp only[qz] at hc8
   have hvf:cO sha hd.root hd.n ix e pf=false:=by simpa using hc8
   have hbad:chkIs sha hd.root hd.n (-1) (itsM L)=false:=by rw[hs,fR hkx hx]; rw[show cO sha hd.root hd.n (⟨⟨ix,e,pf⟩,pv⟩:Itw).m.ix (⟨⟨ix,e,pf⟩,pv⟩:Itw).m.e (⟨⟨ix,e,pf⟩,pv⟩:Itw).m.pf=false from hvf,AY]; rfl
   refine aa λ_ G18=>wla Y O λa Y=>G18<|aq ?_
   refine am Y results52 (ae O ag) ?_
   refine⟨?_,U.ext⟩
   simp only[retv]
   refine Ap Value.bool ?_
   unfold checkP
   rw[hbad,AY]
  try simp only[qz] at hc8
  have hvf:cO sha hd.root hd.n ix e pf=true:=by simpa using hc8
  refine ar<|G9<|aj<|nv Y<|zM (aL O O ⟨om,om⟩)<|zN O<|λa Y=>ab ?_
  refine⟨_,?_,k+1,O,om,(by rw[hs]; exact o6 hkx hx hgo hel hvf),Y.pick [3,14,15,16],U.select [0] de⟩
  omega
 have hall:chkIs sha hd.root hd.n (-1) (itsM L)=true:=by rw[hs,show k=(itsM L).length by rw[dK]; omega,List.drop_length]; rfl
 refine aP<|G5<|aa λ_ G19=>wla Y O λa Y=>G19 ?_
 replace Y:=Y.p1 4 O
 replace U:=U.k0 0 O
 refine aq<|am Y results52 (ae O ag) ?_
 refine⟨?_,U.ext⟩
 simp only[retv]
 refine Ap Value.bool ?_
 unfold checkP
 rw[hgn,hall]; rfl
end Go.Proofs.YtliklcmddmpdfaaGreatDoor
